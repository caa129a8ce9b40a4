/- What flows through a pipe: the law's take. -/
import Derived.Test.YtgmmkajjigmjoaaPiL1
import Derived.Test.YtgmmkajjigmjoaaEngZi
namespace Go.E.Pi
open Go Go.E Go.Proofs.Ytgmmkajjigmjoaa Go.Proofs
set_option linter.unusedVariables false
set_option linter.unusedSimpArgs false
set_option maxRecDepth 100000

abbrev KV := List (Int × Value)
def eI (n : Int) : Value := .int .i64 n
theorem kI : KeyEnc (.int .i64) eI := keyI64
structure KvOk (B : AHeap) (kv : KV) : Prop where
  ok : ∀ p ∈ kv, ∃ l r, RdS B 1 p.2 (u8s l) r ∧ (∀ b ∈ r, b < B.next) ∧ l.length ≤ 4000
theorem kvGet_mem {kv : KV} {k : Int} {v : Value} (h : kvGet kv k = some v) : (k, v) ∈ kv := by
  induction kv with
  | nil => cases h
  | cons p l ih =>
    unfold kvGet at h
    split at h
    · rename_i hk
      cases h
      subst hk
      exact List.mem_cons_self
    · exact List.mem_cons_of_mem _ (ih h)
theorem kvDel_mem {kv : KV} {k : Int} {p : Int × Value} (h : p ∈ kvDel kv k) : p ∈ kv := by
  induction kv with
  | nil => exact h
  | cons q l ih =>
    unfold kvDel at h
    split at h
    · exact List.mem_cons_of_mem _ h
    · rcases List.mem_cons.1 h with rfl | h
      · exact List.mem_cons_self
      · exact List.mem_cons_of_mem _ (ih h)
theorem kvDel_len {kv : KV} {k : Int} {v : Value} (h : kvGet kv k = some v) : (kvDel kv k).length + 1 = kv.length := by
  induction kv with
  | nil => cases h
  | cons q l ih =>
    unfold kvGet at h
    unfold kvDel
    split at h
    · rename_i hk; rw [if_pos hk]; rfl
    · rename_i hk
      rw [if_neg hk, List.length_cons, ih h, List.length_cons]
def tk : List EndM → List Int → KV → List Int × KV
  | [], rd, kv => (rd, kv)
  | e :: es, rd, kv => match kvGet kv e.thread with
    | some _ => tk es rd (kvDel kv e.thread)
    | none => tk es (rd ++ e.data) kv
theorem tk_len : ∀ (es : List EndM) (rd : List Int) (kv : KV), rd.length ≤ (tk es rd kv).1.length
  | [], rd, kv => Nat.le_refl _
  | e :: es, rd, kv => by
    unfold tk
    split
    · exact tk_len es rd _
    · have := tk_len es (rd ++ e.data) kv
      rw [List.length_append] at this
      omega
def flw (f : Nat) (rd wr : List Int) (kv : KV) : Asn := exA fun (x : Value × Value × Nat) => seps [pto f (.cells [x.1, x.2.1, .map (some x.2.2), .bool false] 0 false), sl 1 x.1 (u8s rd), sl 1 x.2.1 (u8s wr), im eI x.2.2 kv]
section
variable {B H : AHeap} {As : List Asn} {f : Nat} {rd wr : List Int} {kv : KV}
theorem openF (h : S B H (flw f rd wr kv :: As)) : ∃ ar cr aw cw m, S B H (pto f (.cells [.slice ar rd.length cr, .slice aw wr.length cw, .map (some m), .bool false] 0 false) :: sl 1 (.slice ar rd.length cr) (u8s rd) :: sl 1 (.slice aw wr.length cw) (u8s wr) :: im eI m kv :: As) := by
  obtain ⟨⟨vr, vw, m⟩, h⟩ := S.unex h
  have h := S.unseps h
  obtain ⟨ar, cr, e1⟩ := S.u1 (S.up1 h)
  obtain ⟨aw, cw, e2⟩ := S.u1 (S.up2 h)
  simp only at e1 e2
  subst e1 e2
  exact ⟨ar, cr, aw, cw, m, h⟩
theorem closeF {vr vw : Value} {m : Nat} (h : S B H (pto f (.cells [vr, vw, .map (some m), .bool false] 0 false) :: sl 1 vr (u8s rd) :: sl 1 vw (u8s wr) :: im eI m kv :: As)) : S B H (flw f rd wr kv :: As) :=
  S.exI (X := Value × Value × Nat) (vr, vw, m) (S.seps h)
end

theorem L15 {B H : AHeap} {As : List Asn} {f : Nat} {rd wr : List Int} {kv : KV} {es : List EndM} {ve : Value} (hS : S B H (arr 4 endA ve es :: flw f rd wr kv :: As)) (hkv : KvOk B kv) (hel : es.length ≤ 1000000)
    (hrd : (tk es rd kv).1.length ≤ 1000000) (hwr : wr.length + 4000 * kv.length ≤ 1000000) (hcn : ∀ e ∈ es, e.data.length ≤ 1000000 ∧ -1000000 ≤ e.count ∧ e.count ≤ 1000000) :
    wpF C 15 [.pointer (some ⟨f, 0, none⟩), ve] H fun v H' => ∃ wr', wr'.length + 4000 * (tk es rd kv).2.length ≤ wr.length + 4000 * kv.length ∧ S B H' (flw f (tk es rd kv).1 wr' (tk es rd kv).2 :: As) := by
  generalize hP : tk es rd kv = P at *
  generalize hQ : wr.length + 4000 * kv.length = Q at *
  obtain ⟨ae, ce, rfl, hce⟩ := S.arrShape hS (by omega)
  obtain ⟨css, hcss, hcl, hS⟩ := S.unarr hS
  refine wpF_ofW o15 rfl rfl ?_
  refine wp_seq ?_; refine wp_region ?_; refine wpO_cons ?_; refine op1_mov rfl (by (conv => lhs; whnf) <;> rfl) ?_; refine wpO_cons ?_; refine op1_len rfl rfl ?_; refine wpO_cons ?_; refine op1_mov rfl (by (conv => lhs; whnf) <;> rfl) ?_; refine wpO_nil ?_; refine seq_normal ?_; refine wp_block ?_
  refine wp_loop [10] (fun k vs H' => ∃ (i : Nat) (rd wr : List Int) (kv : KV), vs = [.int .i64 i] ∧ i + k = es.length ∧ tk (es.drop i) rd kv = P ∧ KvOk B kv ∧ wr.length + 4000 * kv.length ≤ Q ∧ S B H' (flw f rd wr kv :: sl 4 (.slice ae es.length ce) css.flatten :: many endA es css :: As))
    ⟨es.length, 0, rd, wr, kv, rfl, by omega, hP, hkv, by omega, S.up2 hS⟩ ?_
  clear hS hkv hP hQ
  rintro k vs T' H1 ⟨i, rd, wr, kv, rfl, hk, hP, hkv, hQ, hS⟩
  obtain ⟨ar, cr, aw, cw, m, hS⟩ := openF hS
  refine wp_seq ?_; refine wp_region ?_; refine wpO_cons ?_; refine op1_lss rfl rfl rfl ?_; refine wpO_nil ?_; refine seq_normal ?_; refine wp_seq ?_
  refine wp_dec rfl (fun hc => ?_) (fun hc => ?_)
  · have hi : i < es.length := by omega
    obtain ⟨x, hx⟩ : ∃ x, es[i]? = some x := ⟨es[i], by simp [hi]⟩
    have hdr : es.drop i = x :: es.drop (i + 1) := by rw [List.drop_eq_getElem_cons hi]; congr 1; exact (List.getElem?_eq_some_iff.1 hx).2
    rw [hdr] at hP
    have hxc := hcn x (List.mem_of_getElem? hx)
    obtain ⟨csx, ox, hcsx, hwx, _⟩ := S.many_at (S.up5 hS) hx
    obtain ⟨avx, cvx, rfl, _⟩ := endA_at hwx
    obtain ⟨b, off, ds, rfl, _, _, _, _⟩ := (S.up4 hS).elt hi
    refine wp_skip ?_; refine seq_normal ?_; refine wp_seq ?_; refine wp_block ?_; refine wp_seq ?_; refine wp_region ?_; refine wpO_cons ?_; refine op1_iaddr rfl rfl rfl (by omega) (by omega) ?_; refine wpO_cons ?_; refine op1_loadNL rfl rfl (S.up4 hS) rfl rfl (by omega) rfl ?_; refine wpO_cons ?_; refine op1_allocS rfl hS ?_; intro p1 H2 hS; refine wpO_cons ?_
    rw [show (List.take 4 (List.drop ((i : Int).toNat * 4) css.flatten)) = _ from flatten_cut hcss hcsx]
    unfold endC
    (refine op1_storeNS rfl rfl (by (conv => lhs; whnf) <;> rfl) rfl rfl (S.up0 hS) (Nat.le_of_ble_eq_true rfl) ?_; intro H3 hS; replace hS := S.dn0 hS); refine wpO_nil ?_; refine seq_normal ?_; refine wp_seq ?_; refine wp_seq ?_; refine wp_regionD ?_; refine wpD_cons ?_; refine op1_mov rfl (by (conv => lhs; whnf) <;> rfl) ?_; refine wpD_cons ?_; refine op1_nilchk rfl rfl ?_; refine wpD_cons ?_; refine op1_faddr0 rfl rfl ?_; refine wpD_cons ?_; refine op1_load rfl rfl (by exact S.g1 hS) rfl ?_; refine wpD_cons ?_; refine op1_faddr0 rfl rfl ?_; refine wpD_cons ?_; refine op1_load rfl rfl (by exact S.g0 hS) rfl ?_; refine wpD_cons ?_
    refine op1_lookS kI rfl rfl rfl (S.up4 hS) ?_
    rcases hgk : kvGet kv x.thread with _ | v
    · have hP : tk (es.drop (i + 1)) (rd ++ x.data) kv = P := by unfold tk at hP; rw [hgk] at hP; exact hP
      have hrl := tk_len (es.drop (i + 1)) (rd ++ x.data) kv
      rw [hP, List.length_append] at hrl
      refine wpD_cons ?_; refine op1_mov rfl (by (conv => lhs; whnf) <;> rfl) ?_; refine wpD_cons ?_; refine op1_extract rfl rfl rfl ?_; refine wpD_cons ?_; refine op1_extract rfl rfl rfl ?_; refine wpD_cons ?_; refine op1_mov rfl (by (conv => lhs; whnf) <;> rfl) ?_; refine wpD_cons ?_; refine op1_mov rfl (by (conv => lhs; whnf) <;> rfl) ?_; refine wpD_nil ?_; refine dk_of ?_ ?_; refine chk_skip ?_; refine chk_skip ?_; refine chk_skip ?_; refine chk_cons 9 rfl rfl rfl ?_ ?_; refine chkFs_cons 0 rfl rfl ?_ ?_; exact chk_load rfl (by exact S.g1 hS) rfl rfl; exact chkFs_nil; refine chk_skip ?_; refine chk_cons 7 rfl rfl rfl ?_ ?_; refine chkFs_cons 0 rfl rfl ?_ ?_; exact chk_load rfl (by exact S.g0 hS) rfl rfl; exact chkFs_nil; refine chk_cons 6 rfl rfl rfl ?_ ?_; refine chkFs_cons 0 rfl rfl ?_ ?_
      · exact chk_lookS kI rfl rfl (S.up4 hS) (by rw [hgk]; rfl)
      exact chkFs_nil; refine chk_skip ?_; refine chk_skip ?_; refine chk_skip ?_; refine chk_skip ?_; refine chk_skip ?_; exact chk_end; refine seq_normal ?_; refine wp_seq ?_; refine wp_region ?_; refine wpO_cons ?_; refine op1_mov rfl (by (conv => lhs; whnf) <;> rfl) ?_; refine wpO_nil ?_; refine seq_normal ?_; refine wp_false rfl ?_; refine wp_skip ?_; refine seq_normal ?_; refine wp_regionD ?_; refine wpD_cons ?_; refine op1_mov rfl (by (conv => lhs; whnf) <;> rfl) ?_; refine wpD_cons ?_; refine op1_mov rfl (by (conv => lhs; whnf) <;> rfl) ?_; refine wpD_cons ?_; refine op1_nilchk rfl rfl ?_; refine wpD_cons ?_; refine op1_faddr0 rfl rfl ?_; refine wpD_cons ?_; refine op1_load rfl rfl (by exact S.g1 hS) rfl ?_; refine wpD_cons ?_; refine op1_faddr0 rfl rfl ?_; refine wpD_cons ?_; refine op1_load rfl rfl (by exact S.g0 hS) rfl ?_; refine wpD_cons ?_
      obtain ⟨_, hrx, _⟩ := endA_rd hx hcsx _ (S.drop (S.drop (S.drop (S.drop (S.drop (S.drop hS))))))
      refine op1_appRS rfl rfl (by (conv => lhs; whnf) <;> rfl) rfl hrx (by simp) (u8s_one _) (S.up2 hS) (by omega) ?_
      rw [← u8s_append]
      intro a5 c5 H4 hS
      replace hS := S.dn2 hS
      refine wpD_cons ?_; refine op1_nilchk rfl rfl ?_; refine wpD_cons ?_; refine op1_faddr0 rfl rfl ?_; refine wpD_cons ?_; (refine op1_store1S rfl rfl (by (conv => lhs; whnf) <;> rfl) rfl rfl (S.up1 hS) rfl ?_; intro H5 hS; replace hS := S.dn1 hS); refine wpD_nil ?_; refine dk_of ?_ ?_; refine chk_skip ?_; refine chk_skip ?_; refine chk_skip ?_; refine chk_skip ?_; refine chk_cons 7 rfl rfl rfl ?_ ?_; refine chkFs_cons 4 rfl rfl ?_ ?_; exact chk_load rfl (by exact S.g1 (by assumption)) rfl rfl; exact chkFs_nil; refine chk_skip ?_; refine chk_cons 5 rfl rfl rfl ?_ ?_; refine chkFs_cons 4 rfl rfl ?_ ?_; exact chk_load rfl (by exact S.g0 (by assumption)) rfl rfl; exact chkFs_nil; refine chk_skip ?_; refine chk_skip ?_; refine chk_skip ?_; refine chk_skip ?_; exact chk_end; refine block_normal ?_; refine seq_normal ?_; refine wp_region ?_; refine wpO_cons ?_; refine op1_add rfl rfl rfl (by exact wrap_i64 (by omega) (by omega)) ?_; refine wpO_cons ?_; refine op1_mov rfl (by (conv => lhs; whnf) <;> rfl) ?_; refine wpO_nil ?_
      exact ⟨k - 1, by omega, i + 1, rd ++ x.data, wr, kv, rfl, by omega, hP, hkv, hQ, closeF (S.drop hS)⟩
    · obtain ⟨l, r, hvd, hvl, hll⟩ := hkv.ok _ (kvGet_mem hgk)
      obtain ⟨av, cv, rfl⟩ := hvd.u1
      have hP : tk (es.drop (i + 1)) rd (kvDel kv x.thread) = P := by unfold tk at hP; rw [hgk] at hP; exact hP
      have hdl := kvDel_len hgk
      refine wpD_cons ?_; refine op1_mov rfl (by (conv => lhs; whnf) <;> rfl) ?_; refine wpD_cons ?_; refine op1_extract rfl rfl rfl ?_; refine wpD_cons ?_; refine op1_extract rfl rfl rfl ?_; refine wpD_cons ?_; refine op1_mov rfl (by (conv => lhs; whnf) <;> rfl) ?_; refine wpD_cons ?_; refine op1_mov rfl (by (conv => lhs; whnf) <;> rfl) ?_; refine wpD_nil ?_; refine dk_of ?_ ?_; refine chk_skip ?_; refine chk_skip ?_; refine chk_skip ?_; refine chk_cons 9 rfl rfl rfl ?_ ?_; refine chkFs_cons 0 rfl rfl ?_ ?_; exact chk_load rfl (by exact S.g1 hS) rfl rfl; exact chkFs_nil; refine chk_skip ?_; refine chk_cons 7 rfl rfl rfl ?_ ?_; refine chkFs_cons 0 rfl rfl ?_ ?_; exact chk_load rfl (by exact S.g0 hS) rfl rfl; exact chkFs_nil; refine chk_cons 6 rfl rfl rfl ?_ ?_; refine chkFs_cons 0 rfl rfl ?_ ?_
      · exact chk_lookS kI rfl rfl (S.up4 hS) (by rw [hgk]; rfl)
      exact chkFs_nil; refine chk_skip ?_; refine chk_skip ?_; refine chk_skip ?_; refine chk_skip ?_; refine chk_skip ?_; exact chk_end; refine seq_normal ?_; refine wp_seq ?_; refine wp_region ?_; refine wpO_cons ?_; refine op1_mov rfl (by (conv => lhs; whnf) <;> rfl) ?_; refine wpO_nil ?_; refine seq_normal ?_; refine wp_true rfl ?_; refine wp_seq ?_; refine wp_regionD ?_; refine wpD_cons ?_; refine op1_mov rfl (by (conv => lhs; whnf) <;> rfl) ?_; refine wpD_cons ?_; refine op1_mov rfl (by (conv => lhs; whnf) <;> rfl) ?_; refine wpD_cons ?_; refine op1_nilchk rfl rfl ?_; refine wpD_cons ?_; refine op1_faddr0 rfl rfl ?_; refine wpD_cons ?_; refine op1_load rfl rfl (by exact S.g1 hS) rfl ?_; refine wpD_cons ?_; refine op1_mov rfl (by (conv => lhs; whnf) <;> rfl) ?_; refine wpD_cons ?_; refine op1_faddr0 rfl rfl ?_; refine wpD_cons ?_; refine op1_load rfl rfl (by exact S.g0 hS) rfl ?_; refine wpD_cons ?_; refine op1_max rfl rfl rfl ?_; refine wpD_cons ?_; refine op1_mov rfl (by (conv => lhs; whnf) <;> rfl) ?_; refine wpD_cons ?_; refine op1_len rfl rfl ?_; refine wpD_cons ?_; refine op1_min rfl rfl rfl ?_; refine wpD_cons ?_
      obtain ⟨q, hq⟩ : ∃ q : Nat, min (max x.count 0) (l.length : Int) = q := ⟨(min (max x.count 0) (l.length : Int)).toNat, by omega⟩
      rw [hq]
      have hlc := hvd.le_cap
      refine op1_sliceRC rfl rfl (hS.rdB hvd hvl) (bnds_hi (by omega) (by omega)) (by omega) (by simp only [Int.toNat_natCast]; omega) ?_
      simp only [Int.toNat_natCast, Nat.zero_mul, List.drop_zero, Nat.sub_zero, Nat.mul_one]
      intro a5 c5 hd5 hck5
      rw [u8s_take] at hd5
      have hlt : (l.take q).length = q := by rw [List.length_take]; omega
      refine wpD_cons ?_
      refine op1_appRS rfl rfl (by (conv => lhs; whnf) <;> rfl) rfl hd5 (by simp; omega) (u8s_one _) (S.up3 hS) (by omega) ?_
      rw [← u8s_append]
      intro a6 c6 H4 hS
      replace hS := S.dn3 hS
      refine wpD_cons ?_; refine op1_nilchk rfl rfl ?_; refine wpD_cons ?_; refine op1_faddr0 rfl rfl ?_; refine wpD_cons ?_; (refine op1_store1S rfl rfl (by (conv => lhs; whnf) <;> rfl) rfl rfl (S.up1 hS) rfl ?_; intro H5 hS; replace hS := S.dn1 hS); refine wpD_nil ?_; refine dk_of ?_ ?_; refine chk_skip ?_; refine chk_skip ?_; refine chk_skip ?_; refine chk_skip ?_; refine chk_cons 13 rfl rfl rfl ?_ ?_; refine chkFs_cons 4 rfl rfl ?_ ?_; exact chk_load rfl (by exact S.g1 (by assumption)) rfl rfl; exact chkFs_nil; refine chk_skip ?_; refine chk_skip ?_; refine chk_cons 10 rfl rfl rfl ?_ ?_; refine chkFs_cons 4 rfl rfl ?_ ?_; exact chk_load rfl (by exact S.g0 (by assumption)) rfl rfl; exact chkFs_nil; refine chk_skip ?_; refine chk_skip ?_; refine chk_cons 7 rfl rfl rfl ?_ ?_; refine chkFs_cons 4 rfl rfl ?_ ?_; exact chk_len rfl rfl; exact chkFs_nil; refine chk_skip ?_; refine chk_cons 5 rfl rfl rfl ?_ ?_; refine chkFs_cons 4 rfl rfl ?_ ?_
      · exact hck5 _ _ (fun _ _ => rfl) rfl
      exact chkFs_nil; refine chk_skip ?_; refine chk_skip ?_; refine chk_skip ?_; refine chk_skip ?_; exact chk_end; refine seq_normal ?_; refine wp_seq ?_; refine wp_regionD ?_; refine wpD_cons ?_; refine op1_mov rfl (by (conv => lhs; whnf) <;> rfl) ?_; refine wpD_cons ?_; refine op1_nilchk rfl rfl ?_; refine wpD_cons ?_; refine op1_faddr0 rfl rfl ?_; refine wpD_cons ?_; refine op1_load rfl rfl (by exact S.g1 hS) rfl ?_; refine wpD_cons ?_; refine op1_faddr0 rfl rfl ?_; refine wpD_cons ?_; refine op1_load rfl rfl (by exact S.g0 hS) rfl ?_; refine wpD_cons ?_
      refine op1_delS kI rfl rfl rfl (S.up4 hS) ?_
      intro H6 hS
      replace hS := S.dn4 hS
      refine wpD_nil ?_; refine dk_of ?_ ?_; refine chk_skip ?_; refine chk_skip ?_; refine chk_skip ?_; refine chk_cons 4 rfl rfl rfl ?_ ?_; refine chkFs_cons 1 rfl rfl ?_ ?_; exact chk_load rfl (by exact S.g1 (by assumption)) rfl rfl; exact chkFs_nil; refine chk_skip ?_; refine chk_cons 2 rfl rfl rfl ?_ ?_; refine chkFs_cons 1 rfl rfl ?_ ?_; exact chk_load rfl (by exact S.g0 (by assumption)) rfl rfl; exact chkFs_nil; refine chk_skip ?_; exact chk_end; refine seq_normal ?_; refine wp_exit ?_; refine seq_exit ?_; refine block_exit ?_; refine seq_normal ?_; refine wp_region ?_; refine wpO_cons ?_; refine op1_add rfl rfl rfl (by exact wrap_i64 (by omega) (by omega)) ?_; refine wpO_cons ?_; refine op1_mov rfl (by (conv => lhs; whnf) <;> rfl) ?_; refine wpO_nil ?_
      exact ⟨k - 1, by omega, i + 1, rd, wr ++ l.take q, kvDel kv x.thread, rfl, by omega, hP, ⟨fun p hp => hkv.ok p (kvDel_mem hp)⟩, by rw [List.length_append, hlt]; omega, closeF (S.drop hS)⟩
  · obtain rfl : i = es.length := by omega
    rw [List.drop_length] at hP
    subst hP
    refine wp_exit ?_; refine seq_exit ?_; refine iter_exit ?_; refine block_exit ?_; refine nrm_of ?_; refine rk_nil ?_
    exact ⟨wr, hQ, S.drop (S.drop (S.up2 (S.dn1 (closeF hS))))⟩
end Go.E.Pi

/- What flows through a pipe: the plain part. -/
namespace Go.E.Pi
open Go Go.E Go.Proofs.Ytgmmkajjigmjoaa Go.Proofs
set_option linter.unusedVariables false
set_option linter.unusedSimpArgs false
set_option maxRecDepth 100000

def thr (s : PP) : List Int := s.writers.map (·.thread)
/-- what waits to be written -/
def pend (ws : List Wr) : List Int := ws.flatMap fun w => w.data.drop w.done
theorem kvGet_none {kv : KV} {k : Int} : k ∉ kv.map (·.1) → kvGet kv k = none := by
  induction kv with
  | nil => intro _; rfl
  | cons p l ih =>
    intro h
    simp only [List.map_cons, List.mem_cons, not_or] at h
    unfold kvGet
    rw [if_neg h.1]
    exact ih h.2
theorem kvSet_new {kv : KV} {k : Int} {v : Value} : k ∉ kv.map (·.1) → kvSet kv k v = kv ++ [(k, v)] := by
  induction kv with
  | nil => intro _; rfl
  | cons p l ih =>
    intro h
    simp only [List.map_cons, List.mem_cons, not_or] at h
    unfold kvSet
    rw [if_neg h.1, ih h.2]
    rfl
theorem tk_mem : ∀ (es : List EndM) (rd : List Int) (kv : KV) (p : Int × Value), p ∈ (tk es rd kv).2 → p ∈ kv
  | [], rd, kv, p, h => h
  | e :: es, rd, kv, p, h => by
    unfold tk at h
    split at h
    · exact kvDel_mem (tk_mem es rd _ p h)
    · exact tk_mem es _ kv p h
theorem tk_ok {B : AHeap} {es : List EndM} {rd : List Int} {kv : KV} (h : KvOk B kv) : KvOk B (tk es rd kv).2 := ⟨fun p hp => h.ok p (tk_mem es rd kv p hp)⟩

structure Flow (s s' : PP) (rd : List Int) (kv : KV) (es : List EndM) : Prop where
  keys : (tk es rd kv).2.map (·.1) = thr s'
  flow : (tk es rd kv).1 ++ s'.buf ++ pend s'.writers = rd ++ s.buf ++ pend s.writers
  o0 : s'.o0 = s.o0
  o1 : s'.o1 = s.o1
  cap : s'.cap = s.cap
  ws : (thr s').Sublist (thr s)
  rs : s'.readers.Sublist s.readers
  cn : ∀ e ∈ es, e.data.length ≤ 1000000 ∧ -1000000 ≤ e.count ∧ e.count ≤ 1000000
theorem prog_flow : ∀ (k : Nat) (s : PP) (acc : List EndM) (rd : List Int) (kv : KV), mu s ≤ k → Ok s → s.o0 ≠ 0 → kv.map (·.1) = thr s → (∀ r ∈ s.readers, r.1 ∉ thr s) →
    ∃ es, (prog s acc).1 = acc ++ es ∧ Flow s (prog s acc).2 rd kv es := by
  intro k
  induction k with
  | zero =>
    intro s acc rd kv hk hok h0 hkv hr
    have hi : stepI s = none := by
      cases h : stepI s with
      | none => rfl
      | some r => have := stepI_mu (fun w hw => (hok.ws w hw).1) (show stepI s = some (r.1, r.2) from h); omega
    rw [prog_none hi]
    exact ⟨[], by simp, hkv, rfl, rfl, rfl, rfl, List.Sublist.refl _, List.Sublist.refl _, by simp⟩
  | succ k ih =>
    intro s acc rd kv hk hok h0 hkv hr
    rcases hi : stepI s with _ | ⟨e, s1⟩
    · rw [prog_none hi]
      exact ⟨[], by simp, hkv, rfl, rfl, rfl, rfl, List.Sublist.refl _, List.Sublist.refl _, by simp⟩
    have hmu := stepI_mu (fun w hw => (hok.ws w hw).1) hi
    have hok1 := stepI_ok hi hok
    rw [prog_some hok hi]
    have hcap := hok.cap
    have hbl := hok.buf
    -- the three ways of a step
    have hread : ∀ (hR : stepR s = some (e, s1)), ∃ es, (prog s1 (acc ++ e.toList)).1 = acc ++ es ∧ Flow s (prog s1 (acc ++ e.toList)).2 rd kv es := by
      intro hR
      unfold stepR at hR
      split at hR
      · cases hR
      · rename_i x rs hrs
        split at hR
        · cases hR
          have hnx : x.1 ∉ kv.map (·.1) := by rw [hkv]; exact hr x (by rw [hrs]; simp)
          obtain ⟨es, e1, F⟩ := ih { s with buf := s.buf.drop (min x.2 s.buf.length).toNat, readers := rs } (acc ++ [⟨x.1, s.buf.take (min x.2 s.buf.length).toNat, (min x.2 s.buf.length).toNat, 0⟩]) (rd ++ s.buf.take (min x.2 s.buf.length).toNat) kv (by omega) hok1 h0 hkv (fun r hr2 => hr r (by rw [hrs]; exact List.mem_cons_of_mem _ hr2))
          have htk : tk (⟨x.1, s.buf.take (min x.2 s.buf.length).toNat, (min x.2 s.buf.length).toNat, 0⟩ :: es) rd kv = tk es (rd ++ s.buf.take (min x.2 s.buf.length).toNat) kv := by
            rw [tk]
            simp only
            rw [kvGet_none hnx]
          refine ⟨_, by rw [Option.toList_some, e1, List.append_assoc, List.singleton_append], ?_⟩
          refine ⟨by rw [htk]; exact F.keys, ?_, F.o0, F.o1, F.cap, F.ws, F.rs.trans (by rw [hrs]; exact List.sublist_cons_self _ _), ?_⟩
          · rw [htk]
            refine F.flow.trans ?_
            show rd ++ s.buf.take _ ++ s.buf.drop _ ++ pend s.writers = _
            rw [List.append_assoc rd, List.take_append_drop]
          · intro e he
            rcases List.mem_cons.1 he with rfl | he
            · simp only [List.length_take]
              omega
            · exact F.cn e he
        · cases hR
    unfold stepI at hi
    split at hi
    · exact hread hi
    · rename_i w ws hws
      have hwo := hok.ws w (by rw [hws]; simp)
      rw [if_neg h0] at hi
      split at hi
      · split at hi
        · rename_i hdone
          cases hi
          have hkv2 : ∃ v kv2, kv = (w.thread, v) :: kv2 ∧ kv2.map (·.1) = ws.map (·.thread) := by
            unfold thr at hkv
            rw [hws] at hkv
            cases kv with
            | nil => simp at hkv
            | cons p l =>
              simp only [List.map_cons, List.cons.injEq] at hkv
              exact ⟨p.2, l, by rw [← hkv.1], hkv.2⟩
          obtain ⟨v, kv2, rfl, hkv2⟩ := hkv2
          obtain ⟨es, e1, F⟩ := ih { s with buf := s.buf ++ (w.data.drop w.done).take (putN s w), writers := ws } (acc ++ [⟨w.thread, [], (w.done + putN s w : Nat), 0⟩]) rd kv2 (by omega) hok1 h0 hkv2 (fun r hr2 h2 => hr r hr2 (by unfold thr at h2 ⊢; rw [hws]; exact List.mem_cons_of_mem _ h2))
          have htk : tk (⟨w.thread, [], (w.done + putN s w : Nat), 0⟩ :: es) rd ((w.thread, v) :: kv2) = tk es rd kv2 := by
            rw [tk]
            simp only [kvGet, kvDel, if_true]
          refine ⟨_, by rw [Option.toList_some, e1, List.append_assoc, List.singleton_append], ?_⟩
          refine ⟨by rw [htk]; exact F.keys, ?_, F.o0, F.o1, F.cap, F.ws.trans (by unfold thr; rw [hws]; exact List.sublist_cons_self _ _), F.rs, ?_⟩
          · rw [htk]
            refine F.flow.trans ?_
            show rd ++ (s.buf ++ (w.data.drop w.done).take (putN s w)) ++ pend ws = _
            have e2 : (w.data.drop w.done).take (putN s w) = w.data.drop w.done := List.take_of_length_le (by rw [List.length_drop]; omega)
            rw [e2, hws]
            simp only [pend, List.flatMap_cons, List.append_assoc]
          · intro e he
            rcases List.mem_cons.1 he with rfl | he
            · simp only [List.length_nil]
              omega
            · exact F.cn e he
        · rename_i hdone
          cases hi
          have hth : thr { s with buf := s.buf ++ (w.data.drop w.done).take (putN s w), writers := { w with done := w.done + putN s w } :: ws } = thr s := by unfold thr; rw [hws]; rfl
          obtain ⟨es, e1, F⟩ := ih { s with buf := s.buf ++ (w.data.drop w.done).take (putN s w), writers := { w with done := w.done + putN s w } :: ws } acc rd kv (by omega) hok1 h0 (by rw [hth]; exact hkv) (fun r hr2 => by rw [hth]; exact hr r hr2)
          refine ⟨es, by rw [Option.toList_none, List.append_nil]; exact e1, ?_⟩
          rw [Option.toList_none, List.append_nil]
          refine ⟨F.keys, ?_, F.o0, F.o1, F.cap, by rw [← hth]; exact F.ws, F.rs, F.cn⟩
          refine F.flow.trans ?_
          show rd ++ (s.buf ++ (w.data.drop w.done).take (putN s w)) ++ pend ({ w with done := w.done + putN s w } :: ws) = _
          rw [hws]
          simp only [pend, List.flatMap_cons, List.append_assoc]
          rw [← List.drop_drop, ← List.append_assoc ((w.data.drop w.done).take (putN s w)), List.take_append_drop]
      · exact hread hi

theorem Rest.empty {s : PP} (h : Rest s) (h0 : s.o0 ≠ 0) (hb : s.buf.length = 0) : s.writers = [] := by
  rcases hw : s.writers with _ | ⟨w, ws⟩
  · rfl
  exfalso
  have hf := ((stepI_none.1 h.no).2 w ws hw).2
  have hwo := h.ok.ws w (by rw [hw]; simp)
  have hcap := h.ok.cap
  have hatm := h.ok.atm
  unfold PP.fits at hf
  split at hf
  · simp at hf; omega
  · simp at hf; omega

structure WInv (B : AHeap) (i : Nat) (s : PP) (rd od : List Int) (kv : KV) : Prop where
  rest : Rest s
  o0 : s.o0 = 2
  o1 : s.o1 = 2
  keys : kv.map (·.1) = thr s
  wlt : ∀ t ∈ thr s, 0 ≤ t ∧ t < (i + 1) / 2
  rlt : ∀ r ∈ s.readers, 100 ≤ r.1 ∧ r.1 < 100 + i / 2
  wl : s.writers.length ≤ (i + 1) / 2
  rl : s.readers.length ≤ i / 2
  flow : rd ++ s.buf ++ pend s.writers = od
  odl : od.length ≤ 4000 * ((i + 1) / 2)
  kvok : KvOk B kv
theorem WInv.rdl {B : AHeap} {i : Nat} {s : PP} {rd od : List Int} {kv : KV} (h : WInv B i s rd od kv) : rd.length ≤ od.length := by
  rw [← h.flow]
  simp only [List.length_append]
  omega
theorem WInv.kvl {B : AHeap} {i : Nat} {s : PP} {rd od : List Int} {kv : KV} (h : WInv B i s rd od kv) : kv.length ≤ (i + 1) / 2 := by
  have h1 := congrArg List.length h.keys
  unfold thr at h1
  simp only [List.length_map] at h1
  have := h.wl
  omega
/-- after going on -/
theorem WInv.after {B : AHeap} {i : Nat} {s : PP} {rd od : List Int} {kv : KV} (hok : Ok s) (had : AD s) (h0 : s.o0 = 2) (h1 : s.o1 = 2) (hk : kv.map (·.1) = thr s)
    (hw : ∀ t ∈ thr s, 0 ≤ t ∧ t < (i + 1) / 2) (hr : ∀ r ∈ s.readers, 100 ≤ r.1 ∧ r.1 < 100 + i / 2) (hwl : s.writers.length ≤ (i + 1) / 2) (hrl : s.readers.length ≤ i / 2) (hi : i ≤ 100)
    (hf : rd ++ s.buf ++ pend s.writers = od) (hod : od.length ≤ 4000 * ((i + 1) / 2)) (hkv : KvOk B kv) :
    WInv B i (prog s []).2 (tk (prog s []).1 rd kv).1 od (tk (prog s []).1 rd kv).2 ∧ ∀ e ∈ (prog s []).1, e.data.length ≤ 1000000 ∧ -1000000 ≤ e.count ∧ e.count ≤ 1000000 := by
  obtain ⟨es, e1, F⟩ := prog_flow _ s [] rd kv (Nat.le_refl _) hok (by omega) hk (fun r hr2 h2 => by have := hr r hr2; have := hw _ h2; omega)
  rw [List.nil_append] at e1
  rw [e1]
  refine ⟨⟨prog_rest hok had _, F.o0.trans h0, F.o1.trans h1, F.keys, fun t ht => hw t (F.ws.subset ht), fun r hr2 => hr r (F.rs.subset hr2), ?_, ?_, F.flow.trans hf, hod, tk_ok hkv⟩, F.cn⟩
  · have := F.ws.length_le
    unfold thr at this
    simp only [List.length_map] at this
    omega
  · have := F.rs.length_le
    omega
theorem WInv.next {B : AHeap} {i : Nat} {s : PP} {rd od : List Int} {kv : KV} (h : WInv B i s rd od kv) : WInv B (i + 1) s rd od kv :=
  ⟨h.rest, h.o0, h.o1, h.keys, fun t ht => by have := h.wlt t ht; omega, fun r hr => by have := h.rlt r hr; omega, by have := h.wl; omega, by have := h.rl; omega, h.flow, by have := h.odl; omega, h.kvok⟩

def Bd (es : List EndM) : Prop := ∀ e ∈ es, e.data.length ≤ 1000000 ∧ -1000000 ≤ e.count ∧ e.count ≤ 1000000
theorem Bd.nil : Bd [] := by intro e he; simp at he
theorem pend_app (a b : List Wr) : pend (a ++ b) = pend a ++ pend b := by simp [pend]
theorem WInv.write {B : AHeap} {i : Nat} {s : PP} {rd od d : List Int} {kv : KV} {v : Value} (h : WInv B i s rd od kv) (hi : i < 40) (he : i % 2 = 0) (hd : d.length ≤ 4000)
    (hv : ∃ l r, RdS B 1 v (u8s l) r ∧ (∀ b ∈ r, b < B.next) ∧ l.length ≤ 4000) :
    (s.write ((i / 2 : Nat) : Int) d true).err = 0 ∧ ((s.write ((i / 2 : Nat) : Int) d true).is = false → (s.write ((i / 2 : Nat) : Int) d true).n = d.length) ∧
    ∀ kv1, kv1 = (if (s.write ((i / 2 : Nat) : Int) d true).is = true then kvSet kv ((i / 2 : Nat) : Int) v else kv) →
      WInv B (i + 1) (s.write ((i / 2 : Nat) : Int) d true).s (tk (s.write ((i / 2 : Nat) : Int) d true).ends rd kv1).1 (od ++ d) (tk (s.write ((i / 2 : Nat) : Int) d true).ends rd kv1).2 ∧
      Bd (s.write ((i / 2 : Nat) : Int) d true).ends ∧ KvOk B kv1 ∧ kv1.length ≤ 40 := by
  have hok := h.rest.ok
  have hwl := h.wl
  have hrl := h.rl
  have hodl := h.odl
  have hkl := h.kvl
  have hcap := hok.cap
  have hbl := hok.buf
  have hflow := h.flow
  have hnt : ((i / 2 : Nat) : Int) ∉ thr s := fun hm => by have := h.wlt _ hm; omega
  have hnk : ((i / 2 : Nat) : Int) ∉ kv.map (·.1) := by rw [h.keys]; exact hnt
  have hblk : ¬ (s.blocked ((i / 2 : Nat) : Int) = true) := by
    unfold PP.blocked
    rw [decide_eq_false, decide_eq_false]
    · simp
    · exact hnt
    · intro hm
      obtain ⟨r, hr, e⟩ := List.mem_map.1 hm
      have := h.rlt r hr
      omega
  have hR := (h.rest.write ((i / 2 : Nat) : Int) d true).2
  have hkq : KvOk B (kv ++ [(((i / 2 : Nat) : Int), v)]) := ⟨fun p hp => by
    rcases List.mem_append.1 hp with hp | hp
    · exact h.kvok.ok p hp
    · rw [List.mem_singleton] at hp
      subst hp
      exact hv⟩
  rw [kvSet_new hnk]
  unfold PP.write at hR ⊢
  have e1 : ¬ (((i / 2 : Nat) : Int) < 0 ∨ 256 ≤ ((i / 2 : Nat) : Int)) := by omega
  have e2 : ¬ (4096 < d.length) := by omega
  have e3 : ¬ (s.o1 = 0) := by rw [h.o1]; omega
  have e4 : ¬ (s.o0 = 0) := by rw [h.o0]; omega
  rw [if_neg e1, if_neg e2, if_neg e3, if_neg hblk, if_neg e4] at hR ⊢
  by_cases h6 : d.length = 0
  · rw [if_pos h6] at hR ⊢
    have hd0 : d = [] := List.eq_nil_of_length_eq_zero h6
    refine ⟨rfl, fun _ => by rw [h6]; rfl, ?_⟩
    intro kv1 hk1
    rw [if_neg (by simp)] at hk1
    subst hk1
    rw [hd0, List.append_nil]
    exact ⟨h.next, Bd.nil, h.kvok, by omega⟩
  rw [if_neg h6] at hR ⊢
  have e5 : ¬ (s.can d = false ∧ true = false) := by simp
  have e6 : ¬ ((s.can d = false ∨ true = true ∧ s.cap - s.buf.length < d.length) ∧ 64 ≤ s.writers.length) := by omega
  rw [if_neg e5, if_neg e6] at hR ⊢
  by_cases hc : s.can d = false
  · rw [if_pos hc] at hR ⊢
    refine ⟨rfl, fun h => (by cases h), ?_⟩
    rintro kv1 rfl
    rw [if_pos rfl]
    refine ⟨⟨hR, h.o0, h.o1, ?_, ?_, fun r hr => by have := h.rlt r hr; omega, ?_, by show s.readers.length ≤ _; omega, ?_, ?_, hkq⟩, Bd.nil, hkq, by simp; omega⟩
    · show (kv ++ [_]).map _ = (s.writers ++ [_]).map _
      rw [List.map_append, List.map_append]
      congr 1
      exact h.keys
    · intro t ht
      have ht : t ∈ (s.writers ++ [(⟨((i / 2 : Nat) : Int), d, 0⟩ : Wr)]).map (·.thread) := ht
      rw [List.map_append] at ht
      rcases List.mem_append.1 ht with ht | ht
      · have := h.wlt t ht; omega
      · simp at ht; omega
    · show (s.writers ++ [_]).length ≤ _
      simp; omega
    · show rd ++ s.buf ++ pend (s.writers ++ [_]) = od ++ d
      rw [pend_app, ← hflow]
      simp [pend]
    · rw [List.length_append]; omega
  rw [if_neg hc] at hR ⊢
  have hw0 : s.writers = [] := by
    have hc1 : s.can d = true := by simpa using hc
    unfold PP.can at hc1
    simp only [Bool.and_eq_true, decide_eq_true_eq] at hc1
    exact List.eq_nil_of_length_eq_zero hc1.1
  have hp0 : pend s.writers = [] := by rw [hw0]; rfl
  have hk0 : kv = [] := by
    have := congrArg List.length h.keys
    unfold thr at this
    rw [hw0] at this
    simp at this
    exact this
  rw [hp0, List.append_nil] at hflow
  have hoq := okPut hok d
  by_cases hm : min d.length (s.cap - s.buf.length) < d.length ∧ true = true
  · rw [if_pos hm] at hR ⊢
    refine ⟨rfl, fun h => (by cases h), ?_⟩
    rintro kv1 rfl
    rw [if_pos rfl]
    have hoq2 := okQueue (w := ⟨((i / 2 : Nat) : Int), d, min d.length (s.cap - s.buf.length)⟩) hoq (by show s.writers.length < 64; omega) ⟨by show min _ _ < d.length; exact hm.1, by show d.length ≤ 4096; omega⟩
    have had : AD ((s.put d).queue ⟨((i / 2 : Nat) : Int), d, min d.length (s.cap - s.buf.length)⟩) := by
      intro x hx hl
      have hx : x ∈ s.writers ++ [⟨((i / 2 : Nat) : Int), d, min d.length (s.cap - s.buf.length)⟩] := hx
      rw [hw0, List.nil_append, List.mem_singleton] at hx
      subst hx
      exfalso
      have hl : (d.length : Int) ≤ s.atomic := hl
      have hc1 : s.can d = true := by simpa using hc
      unfold PP.can PP.fits at hc1
      rw [if_pos hl] at hc1
      simp only [Bool.and_eq_true, decide_eq_true_eq] at hc1
      omega
    have hth : thr ((s.put d).queue ⟨((i / 2 : Nat) : Int), d, min d.length (s.cap - s.buf.length)⟩) = [((i / 2 : Nat) : Int)] := by
      show (s.writers ++ [_]).map _ = _
      rw [hw0]; rfl
    obtain ⟨q1, q2⟩ := WInv.after (B := B) (i := i + 1) (rd := rd) (od := od ++ d) (kv := kv ++ [(((i / 2 : Nat) : Int), v)]) hoq2 had h.o0 h.o1 (by rw [hth, hk0]; rfl)
      (by rw [hth]; intro t ht; simp at ht; omega) (fun r hr => by have := h.rlt r hr; omega) (by show (s.writers ++ [_]).length ≤ _; simp; omega) (by show s.readers.length ≤ _; omega) (by omega)
      (by
        show rd ++ (s.buf ++ d.take _) ++ pend (s.writers ++ [_]) = od ++ d
        rw [pend_app, hp0, ← hflow]
        simp [pend]) (by rw [List.length_append]; omega) hkq
    exact ⟨q1, q2, hkq, by simp; omega⟩
  · rw [if_neg hm] at hR ⊢
    have hmd : min d.length (s.cap - s.buf.length) = d.length := by
      by_cases hq : min d.length (s.cap - s.buf.length) = d.length
      · exact hq
      · exact absurd ⟨by omega, rfl⟩ hm
    refine ⟨rfl, fun _ => by rw [hmd], ?_⟩
    intro kv1 hk1
    rw [if_neg (by simp)] at hk1
    subst hk1
    obtain ⟨q1, q2⟩ := WInv.after (B := B) (i := i + 1) (s := s.put d) (rd := rd) (od := od ++ d) hoq h.rest.ad h.o0 h.o1 h.keys (fun t ht => by have := h.wlt t ht; omega) (fun r hr => by have := h.rlt r hr; omega)
      (by show s.writers.length ≤ _; omega) (by show s.readers.length ≤ _; omega) (by omega)
      (by
        show rd ++ (s.buf ++ d.take _) ++ pend s.writers = od ++ d
        rw [hp0, ← hflow, hmd]
        simp) (by rw [List.length_append]; omega) h.kvok
    exact ⟨q1, q2, h.kvok, by omega⟩

theorem WInv.read {B : AHeap} {i : Nat} {s : PP} {rd od : List Int} {kv : KV} {n : Int} (h : WInv B i s rd od kv) (hi : i < 40) (he : i % 2 = 1) (hn : 1 ≤ n ∧ n ≤ 500) :
    (s.read (100 + ((i / 2 : Nat) : Int)) n true).err = 0 ∧ ((s.read (100 + ((i / 2 : Nat) : Int)) n true).data.length : Int) ≤ n ∧ rd.length + (s.read (100 + ((i / 2 : Nat) : Int)) n true).data.length ≤ 1000000 ∧
      WInv B (i + 1) (s.read (100 + ((i / 2 : Nat) : Int)) n true).s (tk (s.read (100 + ((i / 2 : Nat) : Int)) n true).ends (rd ++ (s.read (100 + ((i / 2 : Nat) : Int)) n true).data) kv).1 od (tk (s.read (100 + ((i / 2 : Nat) : Int)) n true).ends (rd ++ (s.read (100 + ((i / 2 : Nat) : Int)) n true).data) kv).2 ∧
      Bd (s.read (100 + ((i / 2 : Nat) : Int)) n true).ends := by
  have hok := h.rest.ok
  have hwl := h.wl
  have hrl := h.rl
  have hodl := h.odl
  have hflow := h.flow
  have hrdl := h.rdl
  have hblk : ¬ (s.blocked (100 + ((i / 2 : Nat) : Int)) = true) := by
    unfold PP.blocked
    rw [decide_eq_false, decide_eq_false]
    · simp
    · intro hm
      have := h.wlt _ hm
      omega
    · intro hm
      obtain ⟨r, hr, e⟩ := List.mem_map.1 hm
      have := h.rlt r hr
      omega
  have hR := (h.rest.read (100 + ((i / 2 : Nat) : Int)) n true).2
  unfold PP.read at hR ⊢
  have e1 : ¬ (100 + ((i / 2 : Nat) : Int) < 0 ∨ 256 ≤ 100 + ((i / 2 : Nat) : Int) ∨ n < 0 ∨ 4096 < n) := by omega
  have e2 : ¬ (s.o0 = 0) := by rw [h.o0]; omega
  have e3 : ¬ (n = 0) := by omega
  rw [if_neg e1, if_neg e2, if_neg hblk, if_neg e3] at hR ⊢
  by_cases h5 : s.readers.length = 0 ∧ 0 < s.buf.length
  · rw [if_pos h5] at hR ⊢
    obtain ⟨q1, q2⟩ := WInv.after (B := B) (i := i + 1) (s := s.rdTake n) (rd := rd ++ s.buf.take (min n s.buf.length).toNat) (od := od) (kv := kv) (okTake hok n) h.rest.ad h.o0 h.o1 h.keys (fun t ht => by have := h.wlt t ht; omega) (fun r hr => by have := h.rlt r hr; omega)
      (by show s.writers.length ≤ _; omega) (by show s.readers.length ≤ _; omega) (by omega)
      (by
        show rd ++ s.buf.take _ ++ s.buf.drop _ ++ pend s.writers = od
        rw [List.append_assoc rd, List.take_append_drop]
        exact hflow) (by omega) h.kvok
    refine ⟨rfl, ?_, ?_, q1, q2⟩
    · simp only [List.length_take]; omega
    · simp only [List.length_take]; omega
  rw [if_neg h5] at hR ⊢
  have e4 : ¬ (s.readers.length = 0 ∧ s.o1 = 0 ∧ s.writers.length = 0) := by rw [h.o1]; omega
  have e5 : ¬ (true = false) := by simp
  have e6 : ¬ (64 ≤ s.readers.length) := by omega
  rw [if_neg e4, if_neg e5, if_neg e6] at hR ⊢
  refine ⟨rfl, by simp only [List.length_nil]; omega, by simp only [List.length_nil]; omega, ?_, Bd.nil⟩
  rw [List.append_nil]
  refine ⟨hR, h.o0, h.o1, h.keys, fun t ht => by have := h.wlt t ht; omega, ?_, by show s.writers.length ≤ _; omega, ?_, hflow, by show od.length ≤ _; omega, h.kvok⟩
  · intro r hr
    simp only [List.mem_append, List.mem_singleton] at hr
    rcases hr with hr | rfl
    · have := h.rlt r hr; omega
    · simp only; omega
  · simp only [List.length_append, List.length_cons, List.length_nil]; omega

theorem WInv.last {B : AHeap} {i : Nat} {s : PP} {rd od : List Int} {kv : KV} (h : WInv B i s rd od kv) (hi : i ≤ 40) (hb : 0 < s.buf.length) :
    (s.read 200 300 false).err = 0 ∧ (s.read 200 300 false).is = false ∧ 0 < (s.read 200 300 false).data.length ∧ (s.read 200 300 false).data.length ≤ 300 ∧
      WInv B i (s.read 200 300 false).s (tk (s.read 200 300 false).ends (rd ++ (s.read 200 300 false).data) kv).1 od (tk (s.read 200 300 false).ends (rd ++ (s.read 200 300 false).data) kv).2 ∧
      Bd (s.read 200 300 false).ends := by
  have hok := h.rest.ok
  have hwl := h.wl
  have hrl := h.rl
  have hodl := h.odl
  have hflow := h.flow
  have hblk : ¬ (s.blocked 200 = true) := by
    unfold PP.blocked
    rw [decide_eq_false, decide_eq_false]
    · simp
    · intro hm
      have := h.wlt _ hm
      omega
    · intro hm
      obtain ⟨r, hr, e⟩ := List.mem_map.1 hm
      have := h.rlt r hr
      omega
  have hr0 : s.readers.length = 0 := by
    rcases stepR_none.1 (stepI_none.1 h.rest.no).1 with h | h
    · rw [h]; rfl
    · omega
  unfold PP.read
  have e1 : ¬ ((200 : Int) < 0 ∨ (256 : Int) ≤ 200 ∨ (300 : Int) < 0 ∨ (4096 : Int) < 300) := by omega
  have e2 : ¬ (s.o0 = 0) := by rw [h.o0]; omega
  have e3 : ¬ ((300 : Int) = 0) := by omega
  rw [if_neg e1, if_neg e2, if_neg hblk, if_neg e3, if_pos ⟨hr0, hb⟩]
  obtain ⟨q1, q2⟩ := WInv.after (B := B) (i := i) (s := s.rdTake 300) (rd := rd ++ s.buf.take (min 300 (s.buf.length : Int)).toNat) (od := od) (kv := kv) (okTake hok 300) h.rest.ad h.o0 h.o1 h.keys h.wlt h.rlt hwl hrl (by omega)
    (by
      show rd ++ s.buf.take _ ++ s.buf.drop _ ++ pend s.writers = od
      rw [List.append_assoc rd, List.take_append_drop]
      exact hflow) hodl h.kvok
  refine ⟨rfl, rfl, ?_, ?_, q1, q2⟩
  · simp only [List.length_take]; omega
  · simp only [List.length_take]; omega
theorem WInv.done {B : AHeap} {i : Nat} {s : PP} {rd od : List Int} {kv : KV} (h : WInv B i s rd od kv) (hb : s.buf.length = 0) : rd = od ∧ kv = [] := by
  have hw := h.rest.empty (by rw [h.o0]; omega) hb
  have hf := h.flow
  have hk := congrArg List.length h.keys
  unfold thr at hk
  rw [hw] at hk hf
  have hb0 : s.buf = [] := List.eq_nil_of_length_eq_zero hb
  rw [hb0] at hf
  simp [pend] at hf
  simp at hk
  exact ⟨hf, hk⟩
end Go.E.Pi
