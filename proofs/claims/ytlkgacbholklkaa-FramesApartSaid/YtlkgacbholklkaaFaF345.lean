/- The table of frames: singles. -/
import Derived.Test.YtlkgacbholklkaaFaRF12
namespace Go.E.Fa
open Go Go.E Go.Proofs.Ytlkgacbholklkaa Go.Proofs
set_option linter.unusedVariables false
set_option linter.unusedSimpArgs false
set_option maxRecDepth 100000
theorem plC_flen (l : List Pl) : (l.flatMap plC).length = l.length * 5 := by
  induction l with
  | nil => rfl
  | cons a l ih => rw [List.flatMap_cons, List.length_append, ih, plC_len, List.length_cons]; omega

structure PlOk (M : Fm) (p : Pl) : Prop where
  first : 0 ≤ p.first
  count : 0 ≤ p.count
  top : p.first + p.count ≤ 4096
  dom : ∀ n : Nat, p.first ≤ n → (n : Int) < p.first + p.count → (n : Int) ∈ M.dom
structure TbOk (T : Tb) : Prop where
  m : MOk T.m
  pls : ∀ p ∈ T.pls, PlOk T.m p
  len : T.pls.length ≤ 16
  pool : ∀ n ∈ T.m.dom, 0 ≤ T.m.pool n ∧ T.m.pool n < T.pls.length
  dat : ∀ n d, T.m.dat n = some d → d.2.length = 64

def ordP (M : Fm) (p : Pl) (top : Bool) : List Int := if top then (freeP M p).reverse else freeP M p
def sing1 (T : Tb) (cnt : Nat) (top : Bool) (acc : List Int) (i : Int) : List Int := acc ++ (ordP T.m (poolOf T i) top).take (cnt - acc.length)
def singles (T : Tb) (cnt : Nat) (top : Bool) (l : List Int) : List Int := l.foldl (sing1 T cnt top) []
def reqC (vn : Value) (cnt al : Int) (cg top : Bool) : List Value := [vn, .int .i64 cnt, .int .i64 al, .bool cg, .bool top]

theorem runsP_free (M : Fm) (p : Pl) (hp : PlOk M p) : ((runsP M p.first.toNat (p.first + p.count).toNat).flatMap span).map (fun n : Nat => (n : Int)) = freeP M p := by
  have h1 := hp.first
  have h2 := hp.count
  unfold runsP freeP
  rw [runs_free _ _ _ (by omega), show (p.first + p.count).toNat - p.first.toNat = p.count.toNat by omega]

theorem sing1_len {T : Tb} {cnt : Nat} {top : Bool} {acc : List Int} {i : Int} (h : acc.length ≤ cnt) : (sing1 T cnt top acc i).length ≤ cnt := by
  unfold sing1
  rw [List.length_append, List.length_take]
  omega
theorem singles_len (T : Tb) (cnt : Nat) (top : Bool) (l : List Int) : (singles T cnt top l).length ≤ cnt := by
  unfold singles
  suffices h : ∀ (l : List Int) (acc : List Int), acc.length ≤ cnt → (l.foldl (sing1 T cnt top) acc).length ≤ cnt from h l [] (by simp)
  intro l
  induction l with
  | nil => exact fun _ h => h
  | cons i l ih => exact fun acc h => ih _ (sing1_len h)
theorem freeP_len {M : Fm} {p : Pl} (hp : PlOk M p) : (freeP M p).length ≤ 4096 := by
  have h1 := hp.top
  have h2 := hp.first
  have h3 := hp.count
  unfold freeP
  rw [List.length_map]
  refine Nat.le_trans (List.length_filter_le _ _) ?_
  rw [List.length_range']
  omega

def ints (l : List Nat) : List Int := l.map fun n : Nat => (n : Int)
theorem ints_app (a b : List Nat) : ints (a ++ b) = ints a ++ ints b := by simp [ints]
@[simp] theorem ints_len (a : List Nat) : (ints a).length = a.length := by simp [ints]
theorem runs_mem {fr : Nat → Bool} {E : Nat} (n : Nat) {x : Nat × Nat} (h : x ∈ runsAt fr E n) : n ≤ x.1 ∧ x.1 < x.2 ∧ x.2 ≤ E := by
  rw [runsAt.eq_def] at h
  split at h
  · rename_i hn
    have hge := skip_ge fr E n
    have hle := skip_le fr E n (by omega)
    rcases List.mem_append.1 h with h1 | h1
    · split at h1
      · rw [List.mem_singleton] at h1
        subst h1
        exact ⟨Nat.le_refl _, by assumption, hle⟩
      · simp at h1
    · have := runs_mem (skip fr E n + 1) h1
      omega
  · simp at h
termination_by E - n
decreasing_by have := skip_ge fr E n; omega
theorem span_snoc (x : Nat × Nat) (n : Nat) : List.range' x.1 (n + 1) = List.range' x.1 n ++ [x.1 + n] := List.range'_1_concat
theorem openT1 {B H : AHeap} {As : List Asn} {t : Nat} {T : Tb} (h : S B H (repT t T :: As)) (hne : T.pls.length ≠ 0) : ∃ pb po pc m1 m2, T.pls.length ≤ pc ∧ S B H (pto t (.cells (tabC (.slice (some ⟨pb, po, none⟩) T.pls.length pc) m1 m2) 0 false) :: sl 5 (.slice (some ⟨pb, po, none⟩) T.pls.length pc) (T.pls.flatMap plC) :: im enS m1 T.ix :: im enI m2 (fkv T.m) :: seps (T.m.dom.map (frA T.m)) :: As) := by
  obtain ⟨pv, m1, m2, hS⟩ := openT h
  obtain ⟨ap, lp, cp, rfl, hpl⟩ := S.shape (S.up1 hS)
  rw [plC_flen] at hpl
  obtain rfl : lp = T.pls.length := by omega
  obtain ⟨pb, po, cs, rfl, _, hle, _⟩ := S.slBlk (S.up1 hS) hne
  exact ⟨pb, po, cp, m1, m2, hle, hS⟩

theorem L31 {B H : AHeap} {As : List Asn} {t : Nat} {T : Tb} {a na : Option Addr} {c cnt nl nc : Nat} {idx : List Int} {al : Int} {cg top : Bool} (hT : TbOk T) (hidx : ∀ i ∈ idx, 0 ≤ i ∧ i < T.pls.length) (hlen : idx.length ≤ 16) (hcnt : cnt ≤ 4096)
    (hS : S B H (repT t T :: sl 1 (.slice a idx.length c) (i64s idx) :: As)) :
    wpF C 31 [ptrV t, .slice a idx.length c, .agg ⟨reqC (.slice na nl nc) cnt al cg top⟩] H fun v H' => S B H' (sl 1 v (i64s (singles T cnt top idx)) :: repT t T :: sl 1 (.slice a idx.length c) (i64s idx) :: As) := by
  refine wpF_ofW o31 rfl rfl ?_
  unfold ptrV reqC
  refine zsr ?_; refine wpO_cons ?_; refine op1_boxNS rfl rfl rfl hS ?_; intro p1 H1 hS; refine zw1 ?_; refine zns ?_; refine zsr ?_; refine zw1 ?_; refine zns ?_; refine wp_seq ?_; refine zsr ?_; refine zw1 ?_; refine wpO_cons ?_; refine op1_len rfl rfl ?_; refine zw1 ?_; refine zns ?_; refine wp_block ?_
  refine wp_loop [7, 16] (fun k vs H' => ∃ (i : Nat) (vo : Value), vs = [vo, .int .i64 i] ∧ k = idx.length - i ∧ i ≤ idx.length ∧
      S B H' (sl 1 vo (i64s (singles T cnt top (idx.take i))) :: pto p1 (.cells [.slice na nl nc, .int .i64 cnt, .int .i64 al, .bool cg, .bool top] 0 false) :: repT t T :: sl 1 (.slice a idx.length c) (i64s idx) :: As))
    ⟨_, 0, .slice none 0 0, rfl, rfl, by omega, hS.slNil⟩ ?_
  clear hS
  rintro k vs T' H2 ⟨i, vo, rfl, rfl, hi, hS⟩
  obtain ⟨ao, co, rfl⟩ := hS.i1
  have hol := singles_len T cnt top (idx.take i)
  refine zsr ?_; refine wpO_cons ?_; refine op1_lss rfl rfl rfl ?_; refine zns ?_; refine wp_seq ?_
  refine wp_dec rfl (fun hlt => ?_) (fun hlt => ?_)
  · obtain ⟨ix, hx⟩ : ∃ x, idx[i]? = some x := ⟨idx[i]'(by omega), by simp⟩
    have hix := hidx ix (List.mem_of_getElem? hx)
    obtain ⟨bi, off, cs, rfl, _⟩ := S.slBlk (S.up3 hS) (by omega)
    obtain ⟨pn, rfl⟩ : ∃ n : Nat, ix = n := ⟨ix.toNat, by omega⟩
    obtain ⟨p, hp⟩ : ∃ p, T.pls[pn]? = some p := ⟨T.pls[pn]'(by omega), by simp⟩
    have hpk := hT.pls p (List.mem_of_getElem? hp)
    refine wp_skip ?_; refine seq_normal ?_; refine wp_seq ?_; refine wp_block ?_; refine zsr ?_; refine wpO_cons ?_; refine op1_iaddr rfl rfl rfl (by omega) (by omega) ?_; refine wpO_cons ?_
    refine op1_loadL rfl rfl (S.up3 hS) rfl (by omega) (i64s_at hx) ?_
    refine zw1 ?_; refine zns ?_; refine zsr ?_; refine wpO_cons ?_; refine op1_allocS rfl hS ?_; intro p2 H3 hS; refine zns ?_; refine wp_seq ?_; refine zsr ?_; refine zw1 ?_; refine zw1 ?_; refine zn ?_; refine zf ?_; refine wpO_cons ?_
    obtain ⟨pb, po, pc, m1, m2, hpc, hO⟩ := openT1 (S.up3 hS) (by omega)
    unfold tabC at hO
    refine op1_load rfl rfl (by exact S.g0 hO) rfl ?_; refine zw1 ?_; refine wpO_cons ?_; refine op1_iaddr rfl rfl rfl (by omega) (by omega) ?_; refine wpO_cons ?_
    refine op1_loadNL rfl rfl (S.up1 hO) rfl rfl (by omega) (flatMap_cut plC_len hp) ?_
    refine wpO_cons ?_; refine op1_call2 rfl (by (conv => lhs; whnf) <;> rfl) (by (conv => lhs; whnf) <;> rfl) ?_
    refine wpF_mono (L35 hS) ?_
    rintro _ H4 ⟨pb2, tb2, rfl, hS⟩
    refine zns ?_; refine wp_block ?_
    refine wp_rangeS rfl hS ?_
    intro l hl hk b H5 hS
    have hf1 := hpk.first
    have hf2 := hpk.count
    have hf3 := hpk.top
    refine wpF_mono (L49 (B := B) (t := t) (T := T) (p := p) (F := p.first.toNat) (E := (p.first + p.count).toNat) (by omega) (by omega) (by omega) (fun n h1 h2 => hpk.dom n (by omega) (by omega)) (by omega)
      (fun pre => pto b (.loop .ready none l [29, 30] (loopA Try.prog 31 0) (loopB Try.prog 31 0)) :: exA (fun vf => seps [pto p2 (.cells [vf] 0 false), sl 1 vf (i64s (ints (pre.flatMap span)))]) ::
        sl 1 (.slice ao (singles T cnt top (idx.take i)).length co) (i64s (singles T cnt top (idx.take i))) :: pto p1 (.cells [.slice na nl nc, .int .i64 cnt, .int .i64 al, .bool cg, .bool top] 0 false) :: sl 1 (.slice (some ⟨bi, off, none⟩) idx.length c) (i64s idx) :: As)
      (fun pre H => False) ?_ ?_) ?_
    · intro pre x post H hpp hS
      obtain ⟨vf, hS⟩ := S.unex (S.up4 hS)
      replace hS := S.unseps hS
      obtain ⟨af, cf, rfl⟩ := (S.up1 hS).i1
      refine wp_roundS oY (S.up5 hS) cr31_0a cr31_0b rfl hk rfl hl ?_
      refine zsr ?_; refine zw1 ?_; refine zns ?_; refine wp_region ?_; refine zw1 ?_; refine wpO_nil ?_
      refine ⟨rfl, _, S.up5 hS, ?_⟩
      clear hS
      intro H6 hS
      have hxm := runs_mem _ (show x ∈ runsAt (frB T.m) (p.first + p.count).toNat p.first.toNat by show x ∈ runsP _ _ _; rw [hpp]; simp)
      have hpl : (pre.flatMap span).length + (span x).length ≤ 4096 := by
        have h1 := freeP_len hpk
        rw [← runsP_free T.m p hpk, hpp] at h1
        simp only [List.flatMap_append, List.flatMap_cons, List.length_append, List.length_map] at h1
        omega
      have hsx : (span x).length = x.2 - x.1 := by simp [span]
      refine wp_block ?_; refine zsr ?_; refine zw1 ?_; refine zw1 ?_; refine zns ?_; refine wp_block ?_
      refine wp_loop [13] (fun k vs H' => ∃ (n : Nat) (vf : Value), vs = [.int .i64 n] ∧ k = x.2 - n ∧ x.1 ≤ n ∧ n ≤ x.2 ∧
          S B H' (sl 1 vf (i64s (ints (pre.flatMap span ++ List.range' x.1 (n - x.1)))) :: pto p2 (.cells [vf] 0 false) :: pto b (.loop .busy none l [29, 30] (loopA Try.prog 31 0) (loopB Try.prog 31 0)) :: pto pb2 (.cells (plC p) 0 false) :: pto tb2 (.cells [ptrV t] 0 false) :: repT t T ::
            sl 1 (.slice ao (singles T cnt top (idx.take i)).length co) (i64s (singles T cnt top (idx.take i))) :: pto p1 (.cells [.slice na nl nc, .int .i64 cnt, .int .i64 al, .bool cg, .bool top] 0 false) :: sl 1 (.slice (some ⟨bi, off, none⟩) idx.length c) (i64s idx) :: As))
        ⟨_, x.1, _, rfl, rfl, Nat.le_refl _, by omega, by rw [Nat.sub_self, List.range'_zero, List.append_nil]; exact S.up2 (S.up1 hS)⟩ ?_
      clear hS
      rintro k vs T' H7 ⟨n, vf, rfl, rfl, h1, h2, hS⟩
      obtain ⟨av, cv, rfl⟩ := hS.i1
      have hll : (ints (pre.flatMap span ++ List.range' x.1 (n - x.1))).length ≤ 4096 := by
        simp only [ints_len, List.length_append, List.length_range']
        omega
      refine wp_seq ?_; refine zsr ?_; refine zw1 ?_; refine zw1 ?_; refine wpO_cons ?_; refine op1_lss rfl rfl rfl ?_; refine zns ?_
      refine wp_dec rfl (fun hlt2 => ?_) (fun hlt2 => ?_)
      · refine wp_skip ?_; refine seq_normal ?_; refine wp_seq ?_; refine wp_block ?_; refine wp_region ?_; refine zh (S.g1 hS) ?_; refine zw1 ?_; refine wpO_cons ?_; refine op1_bsliceS rfl hS ?_; refine bk_one (by (conv => lhs; whnf) <;> rfl) rfl rfl rfl ?_; refine bk_nil ?_; intro p3 H8 hS; refine wpO_cons ?_; (refine op1_appBS rfl rfl (by (conv => lhs; whnf) <;> rfl) rfl (S.g0 hS) rfl rfl (S.up1 hS) (by omega) ?_; intro a1 c1 H9 hS; replace hS := S.dn1 hS; replace hS := S.drop hS); refine wpO_cons ?_; (refine op1_store1S rfl rfl (by (conv => lhs; whnf) <;> rfl) rfl rfl (S.up1 hS) rfl ?_; intro H10 hS; replace hS := S.dn1 hS); refine wpO_nil ?_; refine block_normal ?_; refine seq_normal ?_; refine wp_region ?_; refine zw1 ?_; refine wpO_cons ?_; refine op1_add rfl rfl rfl (by exact wrap_i64 (by omega) (by omega)) ?_; refine zw1 ?_; refine wpO_nil ?_
        have e : ints (pre.flatMap span ++ List.range' x.1 (n + 1 - x.1)) = ints (pre.flatMap span ++ List.range' x.1 (n - x.1)) ++ [(n : Int)] := by
          rw [show n + 1 - x.1 = (n - x.1) + 1 by omega, span_snoc, ← List.append_assoc, ints_app _ [_], show x.1 + (n - x.1) = n by omega]
          rfl
        have e2 : i64s (ints (pre.flatMap span ++ List.range' x.1 (n - x.1))) ++ [Value.int .i64 0].set 0 (.int .i64 (n : Int)) = i64s (ints (pre.flatMap span ++ List.range' x.1 (n + 1 - x.1))) := by rw [e, i64s_append]; rfl
        rw [e2] at hS
        exact ⟨x.2 - (n + 1), by omega, n + 1, _, rfl, rfl, by omega, by omega, hS⟩
      · obtain rfl : n = x.2 := by omega
        refine wp_exit ?_; refine seq_exit ?_; refine iter_exit ?_; refine block_exit ?_; refine block_normal ?_
        refine ⟨_, S.up2 hS, fun H8 hS => .inl ⟨rfl, ?_⟩⟩
        have e : ints ((pre ++ [x]).flatMap span) = ints (pre.flatMap span ++ List.range' x.1 (x.2 - x.1)) := by
          rw [List.flatMap_append]
          simp [span]
        rw [e]
        replace hS := S.dn5 hS
        replace hS := S.seps (L := [_, _]) (S.up1 hS)
        exact S.dn4 (S.exI (X := Value) _ hS)
    · replace hS := S.up4 (S.slNil (es := 1) hS)
      replace hS := S.exI (X := Value) (A := fun vf => seps [pto p2 (.cells [vf] 0 false), sl 1 vf (i64s (ints ([].flatMap span)))]) (.slice none 0 0) (S.seps (L := [_, _]) hS)
      exact S.dn3 (S.up4 (S.up4 (S.up4 (S.up6 hS))))
    · rintro v H6 (hS | ⟨_, _, _, _, hf⟩)
      · refine ⟨_, _, _, _, _, _, _, S.up3 hS, rfl, fun H7 hS => ?_⟩
        obtain ⟨vf, hS⟩ := S.unex (S.up3 hS)
        replace hS := S.unseps hS
        rw [show ints ((runsP T.m p.first.toNat (p.first + p.count).toNat).flatMap span) = freeP T.m p from runsP_free T.m p hpk] at hS
        refine block_normal ?_; refine seq_normal ?_
        refine wp_cut [] (fun vs H' => ∃ vf, S B H' (sl 1 vf (i64s (ordP T.m p top)) :: pto p2 (.cells [vf] 0 false) :: pto pb2 (.cells (plC p) 0 false) :: pto tb2 (.cells [ptrV t] 0 false) :: repT t T ::
            sl 1 (.slice ao (singles T cnt top (idx.take i)).length co) (i64s (singles T cnt top (idx.take i))) :: pto p1 (.cells [.slice na nl nc, .int .i64 cnt, .int .i64 al, .bool cg, .bool top] 0 false) :: sl 1 (.slice (some ⟨bi, off, none⟩) idx.length c) (i64s idx) :: As)) ?_ ?_
        · cases top
          · refine zsr ?_; refine zf ?_; refine zh (S.g6 hS) ?_; refine zns ?_; refine wp_false rfl ?_; refine wp_skip ?_; refine cut0  ?_
            exact ⟨vf, S.up1 hS⟩
          · refine zsr ?_; refine zf ?_; refine zh (S.g6 hS) ?_; refine zns ?_; refine wp_true rfl ?_; refine wp_region ?_; refine zh (S.g0 hS) ?_; refine wpO_cons ?_; refine op1_call1 rfl (by (conv => lhs; whnf) <;> rfl) ?_
            refine wpF_mono (L48 (S.up1 hS) (by have := freeP_len hpk; omega)) ?_
            rintro _ H8 hS
            refine wpO_nil ?_; refine cut0  ?_
            exact ⟨vf, hS⟩
        clear hS
        rintro vs8 T8 H8 ⟨vf, hS⟩
        obtain ⟨av, cv, rfl⟩ := hS.i1
        have hol2 : (ordP T.m p top).length ≤ 4096 := by
          have := freeP_len hpk
          unfold ordP
          split
          · rw [List.length_reverse]; omega
          · omega
        refine wp_region ?_; refine zw1 ?_; refine zh (S.g1 hS) ?_; refine zh (S.g1 hS) ?_; refine wpO_cons ?_; refine op1_len rfl rfl ?_; refine zf ?_; refine zh (S.g6 hS) ?_; refine zw1 ?_; refine wpO_cons ?_; refine op1_len rfl rfl ?_; refine wpO_cons ?_; refine op1_sub rfl rfl rfl (by exact wrap_i64 (by omega) (by omega)) ?_; refine wpO_cons ?_; refine op1_min rfl rfl rfl ?_; refine wpO_cons ?_
        obtain ⟨k, hk⟩ : ∃ k : Nat, min ((ordP T.m p top).length : Int) ((cnt : Int) - (singles T cnt top (idx.take i)).length) = k ∧ k = min (ordP T.m p top).length (cnt - (singles T cnt top (idx.take i)).length) := ⟨_, by omega, rfl⟩
        rw [hk.1]
        have hcap := hS.len_le
        refine op1_sliS rfl rfl hS (bnds_hi (n := (k : Int)) (by omega) (by omega)) (by omega) (by simp only [Int.toNat_natCast]; omega) ?_
        intro a8 c8 hS
        have e8 : List.take (((k : Int).toNat - 0) * 1) (List.drop (0 * 1) (i64s (ordP T.m p top))) = i64s ((ordP T.m p top).take k) := by
          rw [Nat.zero_mul, List.drop_zero, Nat.mul_one, i64s_take]
          rfl
        rw [e8] at hS
        refine wpO_cons ?_
        obtain ⟨r8, hr8, _⟩ := hS.rd
        replace hS := S.up5 hS
        refine op1_appRS rfl rfl rfl rfl hr8 (by simp only [i64s_length, List.length_take, Int.toNat_natCast]; omega) (i64s_one _) hS (by simp only [Int.toNat_natCast]; omega) ?_
        intro a9 c9 H9 hS
        have e9 : i64s (singles T cnt top (idx.take i)) ++ i64s ((ordP T.m p top).take k) = i64s (singles T cnt top (idx.take (i + 1))) := by
          rw [← i64s_append]
          congr 1
          have hpo : poolOf T (pn : Int) = p := by unfold poolOf; rw [Int.toNat_natCast, List.getD_eq_getElem?_getD, hp]; rfl
          unfold singles
          rw [List.take_add_one, hx, Option.toList_some, List.foldl_append, List.foldl_cons, List.foldl_nil]
          show _ = sing1 T cnt top _ _
          unfold sing1
          rw [hpo]
          congr 1
          rw [hk.2]
          show List.take (min _ (cnt - (singles T cnt top (idx.take i)).length)) _ = List.take (cnt - (singles T cnt top (idx.take i)).length) _
          rw [← List.take_length (l := ordP T.m p top), List.take_take, List.take_take, List.take_length]
          congr 1
          omega
        rw [e9] at hS
        refine zw1 ?_; refine wpO_nil ?_; refine block_normal ?_; refine seq_normal ?_; refine wp_region ?_; refine wpO_cons ?_; refine op1_add rfl rfl rfl (by exact wrap_i64 (by omega) (by omega)) ?_; refine zw1 ?_; refine wpO_nil ?_
        exact ⟨idx.length - (i + 1), by omega, i + 1, _, rfl, rfl, by omega, S.up1 (S.up2 (S.drop (S.up1 (S.drop (S.up1 (S.drop (S.up1 (S.drop (S.up1 hS)))))))))⟩
      · exact hf.elim
  · obtain rfl : i = idx.length := by omega
    refine wp_exit ?_; refine seq_exit ?_; refine iter_exit ?_; refine block_exit ?_; refine seq_normal ?_; refine zsr ?_; refine zw1 ?_; refine zw1 ?_; refine zns ?_; refine wp_ret ?_; refine ret_of ?_; refine zr ?_; refine rk_nil ?_
    rw [List.take_length] at hS ⊢
    exact S.drop (S.up1 hS)
end Go.E.Fa
/- The table of frames: run. -/
namespace Go.E.Fa
open Go Go.E Go.Proofs.Ytlkgacbholklkaa Go.Proofs
set_option linter.unusedVariables false
set_option linter.unusedSimpArgs false
set_option maxRecDepth 100000
def low (al : Nat) (x : Nat × Nat) : Nat := (x.1 + al - 1) / al * al
def fits (cnt al : Nat) (x : Nat × Nat) : Bool := decide (low al x + cnt ≤ x.2)
def high (cnt al : Nat) (x : Nat × Nat) : Nat := (x.2 - cnt) / al * al
def at1 (cnt al : Nat) (top : Bool) (a : Int) (x : Nat × Nat) : Int := if fits cnt al x then (if top then (high cnt al x : Nat) else if a < 0 then (low al x : Nat) else a) else a
def atOf (cnt al : Nat) (top : Bool) (rs : List (Nat × Nat)) : Int := rs.foldl (at1 cnt al top) (-1)
theorem atOf_snoc {cnt al : Nat} {top : Bool} (rs : List (Nat × Nat)) (x : Nat × Nat) : atOf cnt al top (rs ++ [x]) = at1 cnt al top (atOf cnt al top rs) x := by
  unfold atOf; rw [List.foldl_append]; rfl
theorem atOf_more {cnt al : Nat} (rs : List (Nat × Nat)) : ∀ (a : Int), 0 ≤ a → rs.foldl (at1 cnt al false) a = a := by
  induction rs with
  | nil => exact fun _ _ => rfl
  | cons x rs ih =>
    intro a ha
    rw [List.foldl_cons]
    have : at1 cnt al false a x = a := by
      unfold at1
      split
      · rw [if_neg (by simp), if_neg (by omega)]
      · rfl
    rw [this, ih a ha]
theorem atOf_stop {cnt al : Nat} (pre post : List (Nat × Nat)) (x : Nat × Nat) (h : 0 ≤ atOf cnt al false (pre ++ [x])) : atOf cnt al false (pre ++ x :: post) = atOf cnt al false (pre ++ [x]) := by
  rw [show pre ++ x :: post = (pre ++ [x]) ++ post by simp]
  have : atOf cnt al false ((pre ++ [x]) ++ post) = post.foldl (at1 cnt al false) (atOf cnt al false (pre ++ [x])) := by unfold atOf; rw [List.foldl_append]
  rw [this, atOf_more _ _ h]
def atP (T : Tb) (cnt al : Nat) (top : Bool) (i : Int) : Int := atOf cnt al top (runsP T.m (poolOf T i).first.toNat ((poolOf T i).first + (poolOf T i).count).toNat)
def consec (a : Int) (n : Nat) : List Int := (List.range n).map fun k : Nat => a + k
def runM (T : Tb) (cnt al : Nat) (top : Bool) : List Int → List Int
  | [] => []
  | i :: is => if 0 ≤ atP T cnt al top i then consec (atP T cnt al top i) cnt else runM T cnt al top is

theorem at1_le {cnt al : Nat} {top : Bool} {a : Int} {x : Nat × Nat} (ha : a ≤ 8192) (hx : x.2 ≤ 4096) : at1 cnt al top a x ≤ 8192 := by
  unfold at1 fits
  have h1 : high cnt al x ≤ x.2 - cnt := Nat.div_mul_le_self _ _
  split
  · rename_i h
    have h := of_decide_eq_true h
    split
    · omega
    · split <;> omega
  · exact ha
theorem atOf_le {cnt al : Nat} {top : Bool} (rs : List (Nat × Nat)) (h : ∀ x ∈ rs, x.2 ≤ 4096) : atOf cnt al top rs ≤ 8192 := by
  suffices hh : ∀ (rs : List (Nat × Nat)) (a : Int), (∀ x ∈ rs, x.2 ≤ 4096) → a ≤ 8192 → rs.foldl (at1 cnt al top) a ≤ 8192 from hh rs _ h (by decide)
  intro rs
  induction rs with
  | nil => exact fun a _ ha => ha
  | cons x rs ih => exact fun a h ha => ih _ (fun y hy => h y (by simp [hy])) (at1_le ha (h x (by simp)))
theorem atP_le {T : Tb} {cnt al : Nat} {top : Bool} {i : Int} (hp : PlOk T.m (poolOf T i)) : atP T cnt al top i ≤ 8192 := by
  refine atOf_le _ fun x hx => ?_
  have := runs_mem _ hx
  have h1 := hp.first
  have h2 := hp.count
  have h3 := hp.top
  omega
theorem consec_len (a : Int) (n : Nat) : (consec a n).length = n := by simp [consec]
theorem consec_succ (a : Int) (n : Nat) : consec a (n + 1) = consec a n ++ [a + n] := by simp [consec, List.range_succ]
theorem zero_i64s (n : Nat) : zeroOf [.int .i64 0] n = i64s (List.replicate n 0) := by
  unfold zeroOf i64s
  rw [List.map_replicate]
  induction n with
  | zero => rfl
  | succ n ih => rw [List.replicate_succ, List.flatten_cons, ih, List.replicate_succ]; rfl
theorem fill_step (l : List Int) (m : Nat) (x y : Int) (hm : 0 < m) : (l ++ List.replicate m y).set l.length x = (l ++ [x]) ++ List.replicate (m - 1) y := by
  obtain ⟨m, rfl⟩ : ∃ k, m = k + 1 := ⟨m - 1, by omega⟩
  simp [List.replicate_succ]
theorem L32 {B H : AHeap} {As : List Asn} {t : Nat} {T : Tb} {a na : Option Addr} {c cnt nl nc al : Nat} {idx : List Int} {cg top : Bool} (hT : TbOk T) (hidx : ∀ i ∈ idx, 0 ≤ i ∧ i < T.pls.length) (hlen : idx.length ≤ 16) (hcnt : 1 ≤ cnt ∧ cnt ≤ 4096) (hal : 1 ≤ al ∧ al ≤ 4096)
    (hS : S B H (repT t T :: sl 1 (.slice a idx.length c) (i64s idx) :: As)) :
    wpF C 32 [ptrV t, .slice a idx.length c, .agg ⟨reqC (.slice na nl nc) cnt al cg top⟩] H fun v H' => S B H' (sl 1 v (i64s (runM T cnt al top idx)) :: repT t T :: sl 1 (.slice a idx.length c) (i64s idx) :: As) := by
  refine wpF_ofW o32 rfl rfl ?_
  unfold ptrV reqC
  refine zsr ?_; refine wpO_cons ?_; refine op1_boxNS rfl rfl rfl hS ?_; intro p1 H1 hS; refine zw1 ?_; refine zns ?_; refine wp_seq ?_; refine zsr ?_; refine zw1 ?_; refine wpO_cons ?_; refine op1_len rfl rfl ?_; refine zw1 ?_; refine zns ?_; refine wp_block ?_
  refine wp_loop [17] (fun k vs H' => ∃ (i : Nat), vs = [.int .i64 i] ∧ k = idx.length - i ∧ i ≤ idx.length ∧ runM T cnt al top idx = runM T cnt al top (idx.drop i) ∧
      S B H' (pto p1 (.cells [.slice na nl nc, .int .i64 cnt, .int .i64 al, .bool cg, .bool top] 0 false) :: repT t T :: sl 1 (.slice a idx.length c) (i64s idx) :: As))
    ⟨_, 0, rfl, rfl, by omega, rfl, hS⟩ ?_
  clear hS
  rintro k vs T' H2 ⟨i, rfl, rfl, hi, hrm, hS⟩
  refine zsr ?_; refine wpO_cons ?_; refine op1_lss rfl rfl rfl ?_; refine zns ?_; refine wp_seq ?_
  refine wp_dec rfl (fun hlt => ?_) (fun hlt => ?_)
  · obtain ⟨ix, hx⟩ : ∃ x, idx[i]? = some x := ⟨idx[i]'(by omega), by simp⟩
    have hix := hidx ix (List.mem_of_getElem? hx)
    have hdr : idx.drop i = ix :: idx.drop (i + 1) := by
      have h1 := List.drop_eq_getElem_cons (show i < idx.length by omega)
      rw [List.getElem?_eq_getElem (by omega)] at hx
      rw [h1, Option.some.inj hx]
    obtain ⟨bi, off, cs, rfl, _⟩ := S.slBlk (S.up2 hS) (by omega)
    obtain ⟨pn, rfl⟩ : ∃ n : Nat, ix = n := ⟨ix.toNat, by omega⟩
    obtain ⟨p, hp⟩ : ∃ p, T.pls[pn]? = some p := ⟨T.pls[pn]'(by omega), by simp⟩
    have hpk := hT.pls p (List.mem_of_getElem? hp)
    have hpo : poolOf T (pn : Int) = p := by unfold poolOf; rw [Int.toNat_natCast, List.getD_eq_getElem?_getD, hp]; rfl
    refine wp_skip ?_; refine seq_normal ?_; refine wp_seq ?_; refine wp_block ?_; refine zsr ?_; refine wpO_cons ?_; refine op1_iaddr rfl rfl rfl (by omega) (by omega) ?_; refine wpO_cons ?_
    refine op1_loadL rfl rfl (S.up2 hS) rfl (by omega) (i64s_at hx) ?_
    refine zw1 ?_; refine zns ?_; refine zsr ?_; refine wpO_cons ?_; refine op1_allocS rfl hS ?_; intro p2 H3 hS; refine wpO_cons ?_; (refine op1_store1S rfl rfl (by (conv => lhs; whnf) <;> rfl) rfl rfl (S.up0 hS) rfl ?_; intro H4 hS; replace hS := S.dn0 hS); refine zns ?_; refine wp_seq ?_; refine zsr ?_; refine zw1 ?_; refine zw1 ?_; refine zn ?_; refine zf ?_; refine wpO_cons ?_
    obtain ⟨pb, po, pc, m1, m2, hpc, hO⟩ := openT1 (S.up2 hS) (by omega)
    unfold tabC at hO
    refine op1_load rfl rfl (by exact S.g0 hO) rfl ?_; refine zw1 ?_; refine wpO_cons ?_; refine op1_iaddr rfl rfl rfl (by omega) (by omega) ?_; refine wpO_cons ?_
    refine op1_loadNL rfl rfl (S.up1 hO) rfl rfl (by omega) (flatMap_cut plC_len hp) ?_
    refine wpO_cons ?_; refine op1_call2 rfl (by (conv => lhs; whnf) <;> rfl) (by (conv => lhs; whnf) <;> rfl) ?_
    refine wpF_mono (L35 hS) ?_
    rintro _ H4 ⟨pb2, tb2, rfl, hS⟩
    refine zns ?_; refine wp_block ?_
    refine wp_rangeS rfl hS ?_
    intro l hl hk b H5 hS
    have hf1 := hpk.first
    have hf2 := hpk.count
    have hf3 := hpk.top
    refine wpF_mono (L49 (B := B) (t := t) (T := T) (p := p) (F := p.first.toNat) (E := (p.first + p.count).toNat) (by omega) (by omega) (by omega) (fun n h1 h2 => hpk.dom n (by omega) (by omega)) (by omega)
      (fun pre => pto b (.loop .ready none l [30, 31] (loopA Try.prog 32 0) (loopB Try.prog 32 0)) :: pur (top = false → atOf cnt al top pre < 0) :: pto p2 (.cells [.int .i64 (atOf cnt al top pre)] 0 false) ::
        pto p1 (.cells [.slice na nl nc, .int .i64 cnt, .int .i64 al, .bool cg, .bool top] 0 false) :: sl 1 (.slice (some ⟨bi, off, none⟩) idx.length c) (i64s idx) :: As)
      (fun pre H => top = false ∧ 0 ≤ atOf cnt al top pre ∧ S B H (pto b (.loop .done (some (.exit 2)) l [30, 31] (loopA Try.prog 32 0) (loopB Try.prog 32 0)) :: pto pb2 (.cells (plC p) 0 false) :: pto tb2 (.cells [ptrV t] 0 false) :: repT t T ::
        pto p2 (.cells [.int .i64 (atOf cnt al top pre)] 0 false) :: pto p1 (.cells [.slice na nl nc, .int .i64 cnt, .int .i64 al, .bool cg, .bool top] 0 false) :: sl 1 (.slice (some ⟨bi, off, none⟩) idx.length c) (i64s idx) :: As)) ?_ ?_) ?_
    · intro pre x post H hpp hS
      obtain ⟨hneg, hS⟩ := S.unpur (S.up4 hS)
      refine wp_roundS oY (S.up3 hS) cr32_0a cr32_0b rfl hk rfl hl ?_
      refine zsr ?_; refine zw1 ?_; refine zns ?_; refine wp_region ?_; refine zw1 ?_; refine wpO_nil ?_
      refine ⟨rfl, _, S.up3 hS, ?_⟩
      clear hS
      intro H6 hS
      have hxm := runs_mem _ (show x ∈ runsAt (frB T.m) (p.first + p.count).toNat p.first.toNat by show x ∈ runsP _ _ _; rw [hpp]; simp)
      rw [atOf_snoc]
      have hlow : low al x ≤ x.1 + al - 1 := Nat.div_mul_le_self _ _
      refine wp_block ?_; refine wp_seq ?_; refine wp_regionD ?_; refine zd1 ?_; refine zg ?_; refine zj (S.g5 hS) ?_; refine wpD_cons ?_; refine op1_add rfl rfl rfl (by exact wrap_i64 (by omega) (by omega)) ?_; refine wpD_cons ?_; refine op1_sub rfl rfl rfl (by exact wrap_i64 (by omega) (by omega)) ?_; refine zg ?_; refine zj (S.g5 hS) ?_; refine wpD_cons ?_
      rw [show (x.1 : Int) + al - 1 = ((x.1 + al - 1 : Nat) : Int) by omega]
      obtain ⟨q1, hq1⟩ : ∃ q, q = (x.1 + al - 1) / al := ⟨_, rfl⟩
      have hq1l : q1 ≤ x.1 + al - 1 := by rw [hq1]; exact Nat.div_le_self _ _
      have hq1e : ((x.1 + al - 1 : Nat) : Int).tdiv ((al : Nat) : Int) = ((q1 : Nat) : Int) := by rw [hq1]; rfl
      refine op1_quo rfl rfl rfl (by omega) (by rw [hq1e]; exact wrap_i64 (by omega) (by omega)) ?_
      rw [hq1e]
      refine zg ?_; refine zj (S.g5 hS) ?_; refine wpD_cons ?_
      have hmul : (q1 : Int) * (al : Int) = ((low al x : Nat) : Int) := by rw [hq1]; exact (Int.natCast_mul _ _).symm
      refine op1_mul rfl rfl rfl (by rw [hmul]; exact wrap_i64 (by omega) (by omega)) ?_
      rw [hmul]
      refine zd1 ?_; refine wpD_nil ?_; refine dk_of ?_ ?_; (iterate 2 refine chk_skip ?_); refine zx 10 ?_ ?_; refine zy 0 ?_ ?_; exact zq (S.g5 hS); exact chkFs_nil; (iterate 3 refine chk_skip ?_); refine zx 6 ?_ ?_; refine zy 0 ?_ ?_; exact zq (S.g5 hS); exact chkFs_nil; (iterate 2 refine chk_skip ?_); refine zx 3 ?_ ?_; refine zy 0 ?_ ?_; exact zq (S.g5 hS); exact chkFs_nil; (iterate 2 refine chk_skip ?_); exact chk_end; refine seq_normal ?_; refine wp_seq ?_; refine zsr ?_; refine zw1 ?_; refine zf ?_; refine zh (S.g5 hS) ?_; refine wpO_cons ?_; refine op1_add rfl rfl rfl (by exact wrap_i64 (by omega) (by omega)) ?_; refine zw1 ?_; refine wpO_cons ?_; refine op1_gtr rfl rfl rfl ?_; refine zns ?_
      refine wp_dec rfl (fun hno => ?_) (fun hno => ?_)
      · have e1 : at1 cnt al top (atOf cnt al top pre) x = atOf cnt al top pre := by
          unfold at1 fits
          rw [decide_eq_false (by omega), if_neg (by simp)]
        rw [e1]
        refine wp_exit ?_; refine seq_exit ?_; refine block_exit ?_
        exact ⟨_, hS, fun H8 hS => .inl ⟨rfl, S.dn3 (S.dn4 (S.pur hneg hS))⟩⟩
      · have e0 : fits cnt al x = true := decide_eq_true (by omega)
        cases top
        · have e1 : at1 cnt al false (atOf cnt al false pre) x = (low al x : Nat) := by
            unfold at1
            rw [if_pos e0, if_neg (by simp), if_pos (hneg rfl)]
          rw [e1]
          refine wp_skip ?_; refine seq_normal ?_; refine wp_seq ?_; refine zsr ?_; refine zf ?_; refine zh (S.g5 hS) ?_; refine wpO_cons ?_; refine op1_not_f rfl rfl ?_; refine zns ?_; refine wp_true rfl ?_; refine zsr ?_; refine zw1 ?_; refine wpO_cons ?_; (refine op1_store1S rfl rfl (by (conv => lhs; whnf) <;> rfl) rfl rfl (S.up4 hS) rfl ?_; intro H7 hS; replace hS := S.dn4 hS); refine zns ?_; refine wp_exit ?_; refine seq_exit ?_; refine block_other rfl ?_
          exact ⟨_, hS, fun H8 hS => .inr ⟨rfl, rfl, by omega, hS⟩⟩
        · have e1 : at1 cnt al true (atOf cnt al true pre) x = (high cnt al x : Nat) := by
            unfold at1
            rw [if_pos e0, if_pos rfl]
          rw [e1]
          have hhi : high cnt al x ≤ x.2 - cnt := Nat.div_mul_le_self _ _
          refine wp_skip ?_; refine seq_normal ?_; refine wp_seq ?_; refine zsr ?_; refine zf ?_; refine zh (S.g5 hS) ?_; refine wpO_cons ?_; refine op1_not_t rfl rfl ?_; refine zns ?_; refine wp_false rfl ?_; refine wp_skip ?_; refine seq_normal ?_; refine wp_regionD ?_; refine zd1 ?_; refine zg ?_; refine zj (S.g5 hS) ?_; refine wpD_cons ?_; refine op1_sub rfl rfl rfl (by exact wrap_i64 (by omega) (by omega)) ?_; refine zg ?_; refine zj (S.g5 hS) ?_; refine wpD_cons ?_
          rw [show (x.2 : Int) - cnt = ((x.2 - cnt : Nat) : Int) by omega]
          obtain ⟨q2, hq2⟩ : ∃ q, q = (x.2 - cnt) / al := ⟨_, rfl⟩
          have hq2l : q2 ≤ x.2 - cnt := by rw [hq2]; exact Nat.div_le_self _ _
          have hq2e : ((x.2 - cnt : Nat) : Int).tdiv ((al : Nat) : Int) = ((q2 : Nat) : Int) := by rw [hq2]; rfl
          refine op1_quo rfl rfl rfl (by omega) (by rw [hq2e]; exact wrap_i64 (by omega) (by omega)) ?_
          rw [hq2e]
          refine zg ?_; refine zj (S.g5 hS) ?_; refine wpD_cons ?_
          have hmul2 : (q2 : Int) * (al : Int) = ((high cnt al x : Nat) : Int) := by rw [hq2]; exact (Int.natCast_mul _ _).symm
          refine op1_mul rfl rfl rfl (by rw [hmul2]; exact wrap_i64 (by omega) (by omega)) ?_
          rw [hmul2]
          refine wpD_cons ?_; (refine op1_store1S rfl rfl (by (conv => lhs; whnf) <;> rfl) rfl rfl (S.up4 hS) rfl ?_; intro H7 hS; replace hS := S.dn4 hS); refine wpD_nil ?_; refine dk_of ?_ ?_; (iterate 2 refine chk_skip ?_); refine zx 9 ?_ ?_; refine zy 1 ?_ ?_; exact chk_load rfl (by exact S.g5 (by assumption)) rfl rfl; exact chkFs_nil; (iterate 2 refine chk_skip ?_); refine zx 6 ?_ ?_; refine zy 1 ?_ ?_; exact chk_load rfl (by exact S.g5 (by assumption)) rfl rfl; exact chkFs_nil; (iterate 2 refine chk_skip ?_); refine zx 3 ?_ ?_; refine zy 1 ?_ ?_; exact chk_load rfl (by exact S.g5 (by assumption)) rfl rfl; exact chkFs_nil; (iterate 2 refine chk_skip ?_); exact chk_end; refine block_normal ?_
          exact ⟨_, hS, fun H8 hS => .inl ⟨rfl, S.dn3 (S.dn4 (S.pur (by simp) hS))⟩⟩
    · exact S.dn4 (S.pur (fun _ => by show (-1 : Int) < 0; decide) (S.up3 (S.up3 (S.up5 hS))))
    · rintro v H6 (hS | ⟨pre, x, post, hpp, htop, hat, hS⟩)
      · refine ⟨_, _, _, _, _, _, _, S.up3 hS, rfl, fun H7 hS => ?_⟩
        replace hS := (S.unpur (S.up3 hS)).2
        have eat : atOf cnt al top (runsP T.m p.first.toNat (p.first + p.count).toNat) = atP T cnt al top (pn : Int) := by unfold atP; rw [hpo]
        rw [eat] at hS
        have hale : atP T cnt al top (pn : Int) ≤ 8192 := atP_le (by rw [hpo]; exact hpk)
        obtain ⟨av, hav⟩ : ∃ z, z = atP T cnt al top (pn : Int) := ⟨_, rfl⟩
        rw [← hav] at hS hale
        refine block_normal ?_; refine seq_normal ?_; refine zsr ?_; refine zh (S.g3 hS) ?_; refine wpO_cons ?_; refine op1_geq rfl rfl rfl ?_; refine zns ?_
        refine wp_dec rfl (fun hpos => ?_) (fun hpos => ?_)
        · have hres : runM T cnt al top idx = consec av cnt := by rw [hrm, hdr, runM, ← hav, if_pos hpos]
          rw [hres]
          refine zsr ?_; refine zf ?_; refine zh (S.g4 hS) ?_; refine wpO_cons ?_
          refine op1_mksliceS rfl rfl rfl (by omega) (by omega) (by omega) hS ?_
          intro q H8 hS
          rw [Int.toNat_natCast, zero_i64s] at hS
          replace hS := S.slNew (es := 1) (l := cnt) hS (by simp)
          refine zw1 ?_; refine zns ?_; refine wp_seq ?_; refine zsr ?_; refine zw1 ?_; refine wpO_cons ?_; refine op1_len rfl rfl ?_; refine zw1 ?_; refine zns ?_; refine wp_block ?_
          rw [Int.toNat_natCast]
          refine wp_loop [70] (fun k vs H' => ∃ n : Nat, vs = [.int .i64 n] ∧ k = cnt - n ∧ n ≤ cnt ∧ S B H' (sl 1 (.slice (some ⟨q, 0, none⟩) cnt cnt) (i64s (consec av n ++ List.replicate (cnt - n) 0)) :: pto pb2 (.cells (plC p) 0 false) :: pto tb2 (.cells [ptrV t] 0 false) :: repT t T ::
              pto p2 (.cells [.int .i64 av] 0 false) :: pto p1 (.cells [.slice na nl nc, .int .i64 cnt, .int .i64 al, .bool cg, .bool top] 0 false) :: sl 1 (.slice (some ⟨bi, off, none⟩) idx.length c) (i64s idx) :: As)) ⟨_, 0, rfl, rfl, by omega, hS⟩ ?_
          clear hS
          rintro k vs T' H9 ⟨n, rfl, rfl, hn, hS⟩
          refine zsr ?_; refine wpO_cons ?_; refine op1_lss rfl rfl rfl ?_; refine zns ?_; refine wp_seq ?_
          refine wp_dec rfl (fun hlt3 => ?_) (fun hlt3 => ?_)
          · refine wp_skip ?_; refine seq_normal ?_; refine wp_seq ?_; refine wp_block ?_; refine zsr ?_; refine zw1 ?_; refine zw1 ?_; refine zns ?_; refine wp_region ?_; refine zw1 ?_; refine zw1 ?_; refine zh (S.g4 hS) ?_; refine zw1 ?_; refine wpO_cons ?_; refine op1_add rfl rfl rfl (by exact wrap_i64 (by omega) (by omega)) ?_; refine wpO_cons ?_; refine op1_iaddr rfl rfl rfl (by omega) (by omega) ?_; refine wpO_cons ?_; (refine op1_store1L rfl rfl (by (conv => lhs; whnf) <;> rfl) rfl rfl (S.up0 hS) (by omega) ?_; intro H10 hS; replace hS := S.dn0 hS); refine wpO_nil ?_; refine block_normal ?_; refine seq_normal ?_; refine wp_region ?_; refine wpO_cons ?_; refine op1_add rfl rfl rfl (by exact wrap_i64 (by omega) (by omega)) ?_; refine zw1 ?_; refine wpO_nil ?_
            rw [show (n : Int).toNat = n from rfl, i64s_set] at hS
            have ef := fill_step (consec av n) (cnt - n) (av + n) 0 (by omega)
            rw [consec_len] at ef
            rw [ef, ← consec_succ, show cnt - n - 1 = cnt - (n + 1) by omega] at hS
            exact ⟨cnt - (n + 1), by omega, n + 1, rfl, rfl, by omega, hS⟩
          · obtain rfl : n = cnt := by omega
            rw [Nat.sub_self, List.replicate_zero, List.append_nil] at hS
            refine wp_exit ?_; refine seq_exit ?_; refine iter_exit ?_; refine block_exit ?_; refine seq_normal ?_; refine zsr ?_; refine zw1 ?_; refine zw1 ?_; refine zns ?_; refine wp_ret ?_; refine block_ret ?_; refine seq_ret ?_; refine iter_ret ?_; refine block_ret ?_; refine seq_ret ?_; refine ret_of ?_; refine zr ?_; refine rk_nil ?_
            exact S.drop (S.up2 (S.drop (S.up2 (S.drop (S.up1 (S.drop (S.up1 hS)))))))
        · refine wp_skip ?_; refine block_normal ?_; refine seq_normal ?_; refine wp_region ?_; refine wpO_cons ?_; refine op1_add rfl rfl rfl (by exact wrap_i64 (by omega) (by omega)) ?_; refine zw1 ?_; refine wpO_nil ?_
          exact ⟨idx.length - (i + 1), by omega, i + 1, rfl, rfl, by omega, by rw [hrm, hdr, runM, ← hav, if_neg hpos], S.up1 (S.drop (S.up1 (S.drop (S.drop hS))))⟩
      · refine ⟨_, _, _, _, _, _, _, hS, rfl, fun H7 hS => ?_⟩
        have eat : atOf cnt al top (pre ++ [x]) = atP T cnt al top (pn : Int) := by
          unfold atP
          rw [hpo, hpp]
          subst htop
          exact (atOf_stop pre post x hat).symm
        rw [eat] at hS
        have hale : atP T cnt al top (pn : Int) ≤ 8192 := atP_le (by rw [hpo]; exact hpk)
        obtain ⟨av, hav⟩ : ∃ z, z = atP T cnt al top (pn : Int) := ⟨_, rfl⟩
        rw [← hav] at hS hale
        refine block_exit ?_; refine seq_normal ?_; refine zsr ?_; refine zh (S.g3 hS) ?_; refine wpO_cons ?_; refine op1_geq rfl rfl rfl ?_; refine zns ?_
        refine wp_dec rfl (fun hpos => ?_) (fun hpos => ?_)
        · have hres : runM T cnt al top idx = consec av cnt := by rw [hrm, hdr, runM, ← hav, if_pos hpos]
          rw [hres]
          refine zsr ?_; refine zf ?_; refine zh (S.g4 hS) ?_; refine wpO_cons ?_
          refine op1_mksliceS rfl rfl rfl (by omega) (by omega) (by omega) hS ?_
          intro q H8 hS
          rw [Int.toNat_natCast, zero_i64s] at hS
          replace hS := S.slNew (es := 1) (l := cnt) hS (by simp)
          refine zw1 ?_; refine zns ?_; refine wp_seq ?_; refine zsr ?_; refine zw1 ?_; refine wpO_cons ?_; refine op1_len rfl rfl ?_; refine zw1 ?_; refine zns ?_; refine wp_block ?_
          rw [Int.toNat_natCast]
          refine wp_loop [70] (fun k vs H' => ∃ n : Nat, vs = [.int .i64 n] ∧ k = cnt - n ∧ n ≤ cnt ∧ S B H' (sl 1 (.slice (some ⟨q, 0, none⟩) cnt cnt) (i64s (consec av n ++ List.replicate (cnt - n) 0)) :: pto pb2 (.cells (plC p) 0 false) :: pto tb2 (.cells [ptrV t] 0 false) :: repT t T ::
              pto p2 (.cells [.int .i64 av] 0 false) :: pto p1 (.cells [.slice na nl nc, .int .i64 cnt, .int .i64 al, .bool cg, .bool top] 0 false) :: sl 1 (.slice (some ⟨bi, off, none⟩) idx.length c) (i64s idx) :: As)) ⟨_, 0, rfl, rfl, by omega, hS⟩ ?_
          clear hS
          rintro k vs T' H9 ⟨n, rfl, rfl, hn, hS⟩
          refine zsr ?_; refine wpO_cons ?_; refine op1_lss rfl rfl rfl ?_; refine zns ?_; refine wp_seq ?_
          refine wp_dec rfl (fun hlt3 => ?_) (fun hlt3 => ?_)
          · refine wp_skip ?_; refine seq_normal ?_; refine wp_seq ?_; refine wp_block ?_; refine zsr ?_; refine zw1 ?_; refine zw1 ?_; refine zns ?_; refine wp_region ?_; refine zw1 ?_; refine zw1 ?_; refine zh (S.g4 hS) ?_; refine zw1 ?_; refine wpO_cons ?_; refine op1_add rfl rfl rfl (by exact wrap_i64 (by omega) (by omega)) ?_; refine wpO_cons ?_; refine op1_iaddr rfl rfl rfl (by omega) (by omega) ?_; refine wpO_cons ?_; (refine op1_store1L rfl rfl (by (conv => lhs; whnf) <;> rfl) rfl rfl (S.up0 hS) (by omega) ?_; intro H10 hS; replace hS := S.dn0 hS); refine wpO_nil ?_; refine block_normal ?_; refine seq_normal ?_; refine wp_region ?_; refine wpO_cons ?_; refine op1_add rfl rfl rfl (by exact wrap_i64 (by omega) (by omega)) ?_; refine zw1 ?_; refine wpO_nil ?_
            rw [show (n : Int).toNat = n from rfl, i64s_set] at hS
            have ef := fill_step (consec av n) (cnt - n) (av + n) 0 (by omega)
            rw [consec_len] at ef
            rw [ef, ← consec_succ, show cnt - n - 1 = cnt - (n + 1) by omega] at hS
            exact ⟨cnt - (n + 1), by omega, n + 1, rfl, rfl, by omega, hS⟩
          · obtain rfl : n = cnt := by omega
            rw [Nat.sub_self, List.replicate_zero, List.append_nil] at hS
            refine wp_exit ?_; refine seq_exit ?_; refine iter_exit ?_; refine block_exit ?_; refine seq_normal ?_; refine zsr ?_; refine zw1 ?_; refine zw1 ?_; refine zns ?_; refine wp_ret ?_; refine block_ret ?_; refine seq_ret ?_; refine iter_ret ?_; refine block_ret ?_; refine seq_ret ?_; refine ret_of ?_; refine zr ?_; refine rk_nil ?_
            exact S.drop (S.up2 (S.drop (S.up2 (S.drop (S.up1 (S.drop (S.up1 hS)))))))
        · refine wp_skip ?_; refine block_normal ?_; refine seq_normal ?_; refine wp_region ?_; refine wpO_cons ?_; refine op1_add rfl rfl rfl (by exact wrap_i64 (by omega) (by omega)) ?_; refine zw1 ?_; refine wpO_nil ?_
          exact ⟨idx.length - (i + 1), by omega, i + 1, rfl, rfl, by omega, by rw [hrm, hdr, runM, ← hav, if_neg hpos], S.up1 (S.drop (S.up1 (S.drop (S.drop hS))))⟩
  · have : idx.drop i = [] := List.drop_eq_nil_of_le (by omega)
    rw [this] at hrm
    rw [hrm]
    refine wp_exit ?_; refine seq_exit ?_; refine iter_exit ?_; refine block_exit ?_; refine seq_normal ?_; refine zsr ?_; refine zw1 ?_; refine zns ?_; refine wp_ret ?_; refine ret_of ?_; refine zr ?_; refine rk_nil ?_
    exact (S.drop hS).slNil
end Go.E.Fa
/- The table of frames: asked. -/
namespace Go.E.Fa
open Go Go.E Go.Proofs.Ytlkgacbholklkaa Go.Proofs
set_option linter.unusedVariables false
set_option linter.unusedSimpArgs false
set_option maxRecDepth 100000
theorem L59 {H : AHeap} {v : Value} {l : List Int} {r : List Nat} {x : Int} (hd : RdS H 1 v (i64s l) r) (hl : l.length ≤ 1000000) : wpF C 59 [v, .int .i64 x] H fun u H' => (∃ k : Int, u = .int .i64 k ∧ (0 ≤ k ↔ x ∈ l)) ∧ H = H' := by
  obtain ⟨a, c, rfl⟩ := hd.i1
  refine wpF_ofW o59 rfl rfl ?_
  refine zsr ?_; refine zw1 ?_; refine zns ?_; refine wp_seq ?_; refine zsr ?_; refine zw1 ?_; refine wpO_cons ?_; refine op1_len rfl rfl ?_; refine zw1 ?_; refine zns ?_; refine wp_block ?_
  refine wp_loop [8] (fun k vs H' => ∃ i : Nat, vs = [.int .i64 i] ∧ k = l.length - i ∧ i ≤ l.length ∧ H = H' ∧ x ∉ l.take i) ⟨_, 0, rfl, rfl, by omega, rfl, by simp⟩ ?_
  rintro k vs T' H1 ⟨i, rfl, rfl, hi, rfl, hno⟩
  refine zsr ?_; refine wpO_cons ?_; refine op1_lss rfl rfl rfl ?_; refine zns ?_; refine wp_seq ?_
  refine wp_dec rfl (fun hc => ?_) (fun hc => ?_)
  · obtain ⟨b, off, cs, e, ro, v, rfl, _, hg, hv, hx⟩ := hd.at1 (i := i) (by omega)
    obtain ⟨y, hy, rfl⟩ := i64s_get hx
    refine wp_skip ?_; refine seq_normal ?_; refine wp_seq ?_; refine wp_block ?_; refine zsr ?_; refine zw1 ?_; refine zw1 ?_; refine zns ?_; refine zsr ?_; refine zw1 ?_; refine zw1 ?_; refine zw1 ?_; refine wpO_cons ?_; refine op1_iaddr rfl rfl rfl (by omega) (by omega) ?_; refine wpO_cons ?_
    refine op1_load rfl rfl hg hv ?_
    refine wpO_cons ?_; refine op1_eqlI rfl rfl rfl ?_; refine zns ?_
    refine wp_dec rfl (fun he => ?_) (fun he => ?_)
    · refine zsr ?_; refine zw1 ?_; refine zw1 ?_; refine zns ?_; refine wp_ret ?_; refine block_ret ?_; refine seq_ret ?_; refine iter_ret ?_; refine block_ret ?_; refine seq_ret ?_; refine ret_of ?_; refine zr ?_; refine rk_nil ?_
      refine ⟨⟨_, rfl, ⟨fun _ => ?_, fun _ => by omega⟩⟩, rfl⟩
      rw [he]
      exact List.mem_of_getElem? hy
    · refine wp_skip ?_; refine block_normal ?_; refine seq_normal ?_; refine wp_region ?_; refine wpO_cons ?_; refine op1_add rfl rfl rfl (by exact wrap_i64 (by omega) (by omega)) ?_; refine zw1 ?_; refine wpO_nil ?_
      refine ⟨l.length - (i + 1), by omega, i + 1, rfl, rfl, by omega, rfl, ?_⟩
      rw [List.take_add_one, hy]
      simp only [Option.toList_some, List.mem_append, List.mem_singleton, not_or]
      exact ⟨hno, he⟩
  · refine wp_exit ?_; refine seq_exit ?_; refine iter_exit ?_; refine block_exit ?_; refine seq_normal ?_; refine zsr ?_; refine zw1 ?_; refine zns ?_; refine wp_ret ?_; refine ret_of ?_; refine zr ?_; refine rk_nil ?_
    rw [List.take_of_length_le (by omega)] at hno
    exact ⟨⟨_, rfl, ⟨fun h => absurd h (by decide), fun h => absurd h hno⟩⟩, rfl⟩

theorem L47 {H : AHeap} {v : Value} {l : List Int} {r : List Nat} {x : Int} (hd : RdS H 1 v (i64s l) r) (hl : l.length ≤ 1000000) : wpF C 47 [v, .int .i64 x] H fun u H' => u = .bool (decide (x ∈ l)) ∧ H = H' := by
  refine wpF_ofW o47 rfl rfl ?_
  refine zsr ?_; refine zw1 ?_; refine zns ?_; refine zsr ?_; refine zw1 ?_; refine zw1 ?_; refine wpO_cons ?_; refine op1_call2 rfl (by (conv => lhs; whnf) <;> rfl) (by (conv => lhs; whnf) <;> rfl) ?_
  refine wpF_mono (L59 hd hl) ?_
  rintro _ _ ⟨⟨k, rfl, hk⟩, rfl⟩
  refine wpO_cons ?_; refine op1_geq rfl rfl rfl ?_; refine zw1 ?_; refine zns ?_; refine wp_ret ?_; refine ret_of ?_; refine zr ?_; refine rk_nil ?_
  exact ⟨by simp only [resultV]; congr 1; rw [decide_eq_decide]; exact hk, rfl⟩

/-! ### the pools that are asked for -/
def ixOf (pls : List Pl) : List (ByteArray × Value) := pls.zipIdx.map fun x => (x.1.name, .int .i64 (x.2 : Nat))
def nameIx (pls : List Pl) (s : ByteArray) : Option Nat := pls.findIdx? fun p => decide (p.name = s)
theorem kvGet_ix (pls : List Pl) (s : ByteArray) : kvGet (ixOf pls) s = (nameIx pls s).map fun i : Nat => Value.int .i64 i := by
  unfold ixOf nameIx
  suffices h : ∀ (l : List Pl) (n : Nat), kvGet ((l.zipIdx n).map fun x => (x.1.name, Value.int .i64 (x.2 : Nat))) s = (l.findIdx? fun p => decide (p.name = s)).map fun i : Nat => Value.int .i64 ((n + i : Nat) : Int) by
    have := h pls 0
    simpa using this
  intro l
  induction l with
  | nil => intro n; rfl
  | cons p l ih =>
    intro n
    rw [List.zipIdx_cons, List.map_cons, List.findIdx?_cons]
    simp only [kvGet]
    by_cases hs : s = p.name
    · subst hs; simp
    · rw [if_neg hs, ih, decide_eq_false (fun h => hs h.symm)]
      simp only [Bool.false_eq_true, if_false, Option.map_map]
      congr 1
      funext i
      simp only [Function.comp]
      congr 2
      omega
theorem nameIx_lt {pls : List Pl} {s : ByteArray} {i : Nat} (h : nameIx pls s = some i) : i < pls.length := by
  unfold nameIx at h
  exact (List.findIdx?_eq_some_iff_getElem.1 h).1
def gens (pls : List Pl) : Nat → List Int
  | 0 => []
  | n + 1 => gens pls n ++ (if (pls.getD n default).gen then [(n : Int)] else [])
def looked (pls : List Pl) : List ByteArray → Option (List Int)
  | [] => some []
  | s :: ss => match nameIx pls s with
    | none => none
    | some i => (looked pls ss).map ((i : Int) :: ·)
def askedM (pls : List Pl) (ns : List ByteArray) : Int × List Int :=
  if ns.length = 0 then (0, gens pls pls.length)
  else if 16 < ns.length then (18, [])
  else match looked pls ns with
    | none => (22, [])
    | some l => if l.Nodup then (0, l) else (38, [])
theorem looked_snoc (pls : List Pl) (ss : List ByteArray) (s : ByteArray) : looked pls (ss ++ [s]) = match looked pls ss with | none => none | some l => (nameIx pls s).map fun i : Nat => l ++ [(i : Int)] := by
  induction ss with
  | nil => simp only [List.nil_append, looked]; cases nameIx pls s <;> rfl
  | cons a ss ih =>
    rw [List.cons_append, looked, looked, ih]
    cases nameIx pls a with
    | none => rfl
    | some i =>
      simp only
      cases looked pls ss with
      | none => rfl
      | some l => simp only [Option.map_some]; cases nameIx pls s <;> rfl
theorem looked_none {pls : List Pl} {ss : List ByteArray} {s : ByteArray} (hs : s ∈ ss) (h : nameIx pls s = none) : looked pls ss = none := by
  induction ss with
  | nil => simp at hs
  | cons a ss ih =>
    rw [looked]
    rcases List.mem_cons.1 hs with rfl | hs
    · rw [h]
    · rw [ih hs]
      cases nameIx pls a <;> rfl
theorem looked_len {pls : List Pl} : ∀ {ss : List ByteArray} {l : List Int}, looked pls ss = some l → l.length = ss.length ∧ ∀ i ∈ l, 0 ≤ i ∧ i < pls.length
  | [], l, h => by cases h; simp
  | s :: ss, l, h => by
    rw [looked] at h
    cases hn : nameIx pls s with
    | none => rw [hn] at h; cases h
    | some i =>
      rw [hn] at h
      simp only [Option.map_eq_some_iff] at h
      obtain ⟨l', hl, rfl⟩ := h
      obtain ⟨h1, h2⟩ := looked_len hl
      refine ⟨by simp [h1], fun j hj => ?_⟩
      rcases List.mem_cons.1 hj with rfl | hj
      · have := nameIx_lt hn; omega
      · exact h2 j hj
theorem gens_len (pls : List Pl) (n : Nat) : (gens pls n).length ≤ n ∧ ∀ i ∈ gens pls n, 0 ≤ i ∧ i < n := by
  induction n with
  | zero => simp [gens]
  | succ n ih =>
    rw [gens]
    constructor
    · rw [List.length_append]
      split <;> simp <;> omega
    · intro i hi
      rcases List.mem_append.1 hi with hi | hi
      · have := ih.2 i hi; omega
      · split at hi
        · rw [List.mem_singleton] at hi; omega
        · simp at hi
theorem asked_ok {pls : List Pl} {ns : List ByteArray} (h : pls.length ≤ 16) : (askedM pls ns).2.length ≤ 16 ∧ ∀ i ∈ (askedM pls ns).2, 0 ≤ i ∧ i < pls.length := by
  unfold askedM
  split
  · have := gens_len pls pls.length
    exact ⟨Nat.le_trans this.1 h, this.2⟩
  split
  · simp
  split
  · simp
  · rename_i l hl
    have := looked_len hl
    split
    · exact ⟨by show l.length ≤ 16; omega, this.2⟩
    · simp

theorem L30 {B H : AHeap} {As : List Asn} {t : Nat} {T : Tb} {vn : Value} {ns : List ByteArray} (hT : TbOk T) (hix : T.ix = ixOf T.pls) (hns : ns.length ≤ 1000) (hd : RD B (repT t T :: As) 1 vn (ns.map enS)) (hS : S B H (repT t T :: As)) :
    wpF C 30 [ptrV t, vn] H fun v H' => ∃ v0, v = .tuple ⟨[v0, .int .i64 (askedM T.pls ns).1]⟩ ∧ S B H' (sl 1 v0 (i64s (askedM T.pls ns).2) :: repT t T :: As) := by
  obtain ⟨an, cn, rfl⟩ := hd.shape1 hS
  rw [List.length_map] at *
  have hpl := hT.len
  refine wpF_ofW o30 rfl rfl ?_
  unfold ptrV
  refine zsr ?_; refine zw1 ?_; refine zw1 ?_; refine zns ?_; refine zsr ?_; refine zw1 ?_; refine zns ?_; refine wp_seq ?_; refine zsr ?_; refine zw1 ?_; refine wpO_cons ?_; refine op1_len rfl rfl ?_; refine wpO_cons ?_; refine op1_eqlI rfl rfl rfl ?_; refine zns ?_
  refine wp_dec rfl (fun h0 => ?_) (fun h0 => ?_)
  · obtain ⟨pv, m1, m2, hO⟩ := openT hS
    obtain ⟨ap, lp, cp, rfl, hpl2⟩ := S.shape (S.up1 hO)
    rw [plC_flen] at hpl2
    obtain rfl : lp = T.pls.length := by omega
    unfold tabC at hO
    have e : askedM T.pls ns = (0, gens T.pls T.pls.length) := by unfold askedM; rw [if_pos (by omega)]
    rw [e]
    refine wp_seq ?_; refine zsr ?_; refine zw1 ?_; refine zn ?_; refine zf ?_; refine zh (S.g0 hO) ?_; refine wpO_cons ?_; refine op1_len rfl rfl ?_; refine zw1 ?_; refine zns ?_; refine wp_block ?_
    refine wp_loop [6, 23] (fun k vs H' => ∃ (i : Nat) (vo : Value), vs = [vo, .int .i64 i] ∧ k = T.pls.length - i ∧ i ≤ T.pls.length ∧ S B H' (sl 1 vo (i64s (gens T.pls i)) :: pto t (.cells [.slice ap T.pls.length cp, .map (some m1), .map (some m2)] 0 false) :: sl 5 (.slice ap T.pls.length cp) (T.pls.flatMap plC) :: im enS m1 T.ix :: im enI m2 (fkv T.m) :: seps (T.m.dom.map (frA T.m)) :: As))
      ⟨_, 0, _, rfl, rfl, by omega, hO.slNil⟩ ?_
    clear hS hO
    rintro k vs T' H1 ⟨i, vo, rfl, rfl, hi, hS⟩
    obtain ⟨ao, co, rfl⟩ := hS.i1
    have hgl := gens_len T.pls i
    refine zsr ?_; refine wpO_cons ?_; refine op1_lss rfl rfl rfl ?_; refine zns ?_; refine wp_seq ?_
    refine wp_dec rfl (fun hlt => ?_) (fun hlt => ?_)
    · obtain ⟨pb, po, cs, rfl, _⟩ := S.slBlk (S.up2 hS) (by omega)
      obtain ⟨p, hp⟩ : ∃ p, T.pls[i]? = some p := ⟨T.pls[i]'(by omega), by simp⟩
      refine wp_skip ?_; refine seq_normal ?_; refine wp_seq ?_; refine wp_block ?_; refine zsr ?_; refine zw1 ?_; refine wpO_cons ?_; refine op1_iaddr rfl rfl rfl (by omega) (by omega) ?_; refine wpO_cons ?_; refine op1_loadNL rfl rfl (S.up2 hS) rfl rfl (by omega) rfl ?_; refine wpO_cons ?_; refine op1_allocS rfl hS ?_; intro p1 H2 hS; refine zw1 ?_; refine wpO_cons ?_
      rw [show (i : Int).toNat = i from rfl, flatMap_cut plC_len hp]
      unfold plC
      (refine op1_storeNS rfl rfl (by (conv => lhs; whnf) <;> rfl) rfl rfl (S.up0 hS) (Nat.le_of_ble_eq_true rfl) ?_; intro H3 hS; replace hS := S.dn0 hS); refine zns ?_; refine zsr ?_; refine zf ?_; refine zh (S.g0 hS) ?_; refine zns ?_
      have hgen : gens T.pls (i + 1) = gens T.pls i ++ (if p.gen then [(i : Int)] else []) := by rw [gens, List.getD_eq_getElem?_getD, hp]; rfl
      refine wp_cond rfl (fun hg => ?_) (fun hg => ?_)
      · replace hS := S.drop hS
        refine wp_region ?_; refine zw1 ?_; refine zw1 ?_; refine wpO_cons ?_; refine op1_bsliceS rfl hS ?_; refine bk_one (by (conv => lhs; whnf) <;> rfl) rfl rfl rfl ?_; refine bk_nil ?_; intro p2 H4 hS; refine wpO_cons ?_; (refine op1_appBS rfl rfl (by (conv => lhs; whnf) <;> rfl) rfl (S.g0 hS) rfl rfl (S.up1 hS) (by omega) ?_; intro a1 c1 H5 hS; replace hS := S.dn1 hS; replace hS := S.drop hS); refine zw1 ?_; refine wpO_nil ?_; refine block_normal ?_; refine seq_normal ?_; refine wp_region ?_; refine wpO_cons ?_; refine op1_add rfl rfl rfl (by exact wrap_i64 (by omega) (by omega)) ?_; refine zw1 ?_; refine wpO_nil ?_
        rw [if_pos hg] at hgen
        have e2 : i64s (gens T.pls i) ++ [Value.int .i64 0].set 0 (.int .i64 (i : Int)) = i64s (gens T.pls (i + 1)) := by rw [hgen, i64s_append]; rfl
        rw [e2] at hS
        exact ⟨T.pls.length - (i + 1), by omega, i + 1, _, rfl, rfl, by omega, hS⟩
      · refine wp_skip ?_; refine block_normal ?_; refine seq_normal ?_; refine wp_region ?_; refine wpO_cons ?_; refine op1_add rfl rfl rfl (by exact wrap_i64 (by omega) (by omega)) ?_; refine zw1 ?_; refine wpO_nil ?_
        rw [if_neg (by simp [hg]), List.append_nil] at hgen
        rw [← hgen] at hS
        exact ⟨T.pls.length - (i + 1), by omega, i + 1, _, rfl, rfl, by omega, by rw [hgen] at hS ⊢; exact S.drop hS⟩
    · obtain rfl : i = T.pls.length := by omega
      refine wp_exit ?_; refine seq_exit ?_; refine iter_exit ?_; refine block_exit ?_; refine seq_normal ?_; refine zsr ?_; refine zw1 ?_; refine zw1 ?_; refine zw1 ?_; refine zns ?_; refine wp_ret ?_; refine seq_ret ?_; refine ret_of ?_; refine zr ?_; refine zr ?_; refine rk_nil ?_
      exact ⟨_, rfl, S.dn1 (closeT (pv := .slice ap T.pls.length cp) (m1 := m1) (m2 := m2) (S.dn5 hS))⟩
  · refine wp_skip ?_; refine seq_normal ?_; refine wp_seq ?_; refine zsr ?_; refine zw1 ?_; refine wpO_cons ?_; refine op1_len rfl rfl ?_; refine wpO_cons ?_; refine op1_gtr rfl rfl rfl ?_; refine zns ?_
    refine wp_dec rfl (fun h16 => ?_) (fun h16 => ?_)
    · have e : askedM T.pls ns = (18, []) := by unfold askedM; rw [if_neg (by omega), if_pos (by omega)]
      rw [e]
      refine zsr ?_; refine zw1 ?_; refine zw1 ?_; refine zns ?_; refine wp_ret ?_; refine seq_ret ?_; refine ret_of ?_; refine zr ?_; refine zr ?_; refine rk_nil ?_
      exact ⟨_, rfl, hS.slNil⟩
    · have e : askedM T.pls ns = match looked T.pls ns with | none => (22, []) | some l => if l.Nodup then (0, l) else (38, []) := by unfold askedM; rw [if_neg (by omega), if_neg (by omega)]
      rw [e]
      clear e
      refine wp_skip ?_; refine seq_normal ?_; refine wp_seq ?_; refine zsr ?_; refine zw1 ?_; refine wpO_cons ?_; refine op1_len rfl rfl ?_; refine zw1 ?_; refine zns ?_; refine wp_block ?_
      refine wp_loop [6, 41] (fun k vs H' => ∃ (i : Nat) (vo : Value) (l : List Int), vs = [vo, .int .i64 i] ∧ k = ns.length - i ∧ i ≤ ns.length ∧ looked T.pls (ns.take i) = some l ∧ S B H' (sl 1 vo (i64s l) :: repT t T :: As))
        ⟨_, 0, _, [], rfl, rfl, by omega, rfl, hS.slNil⟩ ?_
      clear hS
      rintro k vs T' H1 ⟨i, vo, l, rfl, rfl, hi, hl, hS⟩
      obtain ⟨ao, co, rfl⟩ := hS.i1
      have hll := looked_len hl
      rw [List.length_take] at hll
      refine zsr ?_; refine wpO_cons ?_; refine op1_lss rfl rfl rfl ?_; refine zns ?_; refine wp_seq ?_
      refine wp_dec rfl (fun hlt => ?_) (fun hlt => ?_)
      · obtain ⟨s, hs⟩ : ∃ s, ns[i]? = some s := ⟨ns[i]'(by omega), by simp⟩
        obtain ⟨r, hr, _⟩ := (RD.cons hd) _ hS
        obtain ⟨b, off, cs, e, ro, v, rfl, _, hg, hv, hxx⟩ := hr.at1 (i := i) (by omega)
        rw [List.getElem?_map, hs] at hxx
        simp only [Option.map_some, Option.some.injEq] at hxx
        subst hxx
        obtain ⟨pv, m1, m2, hO⟩ := openT (S.up1 hS)
        unfold tabC at hO
        unfold enS at hv
        refine wp_skip ?_; refine seq_normal ?_; refine wp_seq ?_; refine wp_block ?_; refine zsr ?_; refine wpO_cons ?_; refine op1_iaddr rfl rfl rfl (by omega) (by omega) ?_; refine wpO_cons ?_
        refine op1_load rfl rfl hg hv ?_
        refine zw1 ?_; refine zns ?_; refine zsr ?_; refine zw1 ?_; refine zn ?_; refine zf ?_; refine zh (S.g0 hO) ?_; refine zw1 ?_; refine wpO_cons ?_
        refine op1_lookS keyS rfl rfl rfl (S.up2 hO) ?_
        rw [hix, kvGet_ix]
        have hsn := looked_snoc T.pls (ns.take i) s
        rw [hl] at hsn
        have htk : ns.take (i + 1) = ns.take i ++ [s] := by rw [List.take_add_one, hs]; rfl
        rw [← htk] at hsn
        cases hn : nameIx T.pls s with
        | none =>
          have e2 := looked_none (List.mem_of_getElem? hs) hn
          rw [e2]
          refine zw1 ?_; refine wpO_cons ?_; refine op1_extract rfl rfl rfl ?_; refine wpO_cons ?_; refine op1_extract rfl rfl rfl ?_; refine zw1 ?_; refine zw1 ?_; refine zns ?_; refine wp_seq ?_; refine zsr ?_; refine zw1 ?_; refine wpO_cons ?_; refine op1_not_f rfl rfl ?_; refine zns ?_; refine wp_true rfl ?_; refine zsr ?_; refine zw1 ?_; refine zw1 ?_; refine zns ?_; refine wp_ret ?_; refine seq_ret ?_; refine block_ret ?_; refine seq_ret ?_; refine iter_ret ?_; refine block_ret ?_; refine seq_ret ?_; refine ret_of ?_; refine zr ?_; refine zr ?_; refine rk_nil ?_
          exact ⟨_, rfl, S.drop (hS.slNil (es := 1)).up1⟩
        | some j =>
          rw [hn] at hsn
          refine zw1 ?_; refine wpO_cons ?_; refine op1_extract rfl rfl rfl ?_; refine wpO_cons ?_; refine op1_extract rfl rfl rfl ?_; refine zw1 ?_; refine zw1 ?_; refine zns ?_; refine wp_seq ?_; refine zsr ?_; refine zw1 ?_; refine wpO_cons ?_; refine op1_not_t rfl rfl ?_; refine zns ?_; refine wp_false rfl ?_; refine wp_skip ?_; refine seq_normal ?_; refine wp_region ?_; refine zw1 ?_; refine zw1 ?_; refine wpO_cons ?_; refine op1_bsliceS rfl hS ?_; refine bk_one (by (conv => lhs; whnf) <;> rfl) rfl rfl rfl ?_; refine bk_nil ?_; intro p1 H2 hS; refine wpO_cons ?_; (refine op1_appBS rfl rfl (by (conv => lhs; whnf) <;> rfl) rfl (S.g0 hS) rfl rfl (S.up1 hS) (by omega) ?_; intro a1 c1 H3 hS; replace hS := S.dn1 hS; replace hS := S.drop hS); refine zw1 ?_; refine wpO_nil ?_; refine block_normal ?_; refine seq_normal ?_; refine wp_region ?_; refine wpO_cons ?_; refine op1_add rfl rfl rfl (by exact wrap_i64 (by omega) (by omega)) ?_; refine zw1 ?_; refine wpO_nil ?_
          have e2 : i64s l ++ [Value.int .i64 0].set 0 (.int .i64 (j : Int)) = i64s (l ++ [(j : Int)]) := by rw [i64s_append]; rfl
          rw [e2] at hS
          exact ⟨ns.length - (i + 1), by omega, i + 1, _, _, rfl, rfl, by omega, hsn, hS⟩
      · rw [List.take_of_length_le (by omega)] at hl
        rw [hl]
        have hll2 : l.length ≤ 16 := by omega
        clear hll hlt hi
        refine wp_exit ?_; refine seq_exit ?_; refine iter_exit ?_; refine block_exit ?_; refine seq_normal ?_; refine wp_seq ?_; refine zsr ?_; refine zw1 ?_; refine wpO_cons ?_; refine op1_len rfl rfl ?_; refine zw1 ?_; refine zns ?_; refine wp_block ?_
        refine wp_loop [63] (fun k vs H' => ∃ (i : Nat), vs = [.int .i64 i] ∧ k = l.length - i ∧ i ≤ l.length ∧ (l.take i).Nodup ∧ H1 = H')
          ⟨_, 0, rfl, rfl, by omega, by simp, rfl⟩ ?_
        rintro k vs T' H2 ⟨i, rfl, rfl, hi, hnd, rfl⟩
        refine zsr ?_; refine wpO_cons ?_; refine op1_lss rfl rfl rfl ?_; refine zns ?_; refine wp_seq ?_
        refine wp_dec rfl (fun hlt => ?_) (fun hlt => ?_)
        · obtain ⟨bi, off, cs, rfl, _⟩ := S.slBlk hS (by omega)
          obtain ⟨y, hy⟩ : ∃ x, l[i]? = some x := ⟨l[i]'(by omega), by simp⟩
          have hcap := hS.len_le
          refine wp_skip ?_; refine seq_normal ?_; refine wp_seq ?_; refine wp_block ?_; refine zsr ?_; refine zw1 ?_; refine wpO_cons ?_; refine op1_iaddr rfl rfl rfl (by omega) (by omega) ?_; refine wpO_cons ?_
          refine op1_loadL rfl rfl hS rfl (by omega) (i64s_at hy) ?_
          refine zw1 ?_; refine zw1 ?_; refine zns ?_; refine zsr ?_; refine zw1 ?_; refine zw1 ?_; refine wpO_cons ?_
          obtain ⟨r, hr, _⟩ := hS.rd
          refine op1_sliceR rfl rfl hr (bnds_hi (n := (i : Int)) (by omega) (by omega)) (by omega) (by simp only [Int.toNat_natCast]; omega) ?_
          intro a8 c8 hr8
          have e8 : List.take (((i : Int).toNat - 0) * 1) (List.drop (0 * 1) (i64s l)) = i64s (l.take i) := by
            rw [Nat.zero_mul, List.drop_zero, Nat.mul_one, i64s_take]
            rfl
          rw [e8] at hr8
          refine zw1 ?_; refine wpO_cons ?_; refine op1_call2 rfl (by (conv => lhs; whnf) <;> rfl) (by (conv => lhs; whnf) <;> rfl) ?_
          refine wpF_mono (L47 hr8 (by rw [List.length_take]; omega)) ?_
          rintro _ _ ⟨rfl, rfl⟩
          refine zns ?_
          refine wp_dec rfl (fun hmem => ?_) (fun hmem => ?_)
          · have e : ¬ l.Nodup := by
              intro h
              have h2 : (l.take i ++ [y]).Nodup := by
                have := (List.take_sublist (i + 1) l).nodup h
                rwa [List.take_add_one, hy] at this
              rw [List.nodup_append] at h2
              exact h2.2.2 y hmem y (by simp) rfl
            simp only [if_neg e]
            refine zsr ?_; refine zw1 ?_; refine zw1 ?_; refine zns ?_; refine wp_ret ?_; refine block_ret ?_; refine seq_ret ?_; refine iter_ret ?_; refine block_ret ?_; refine seq_ret ?_; refine ret_of ?_; refine zr ?_; refine zr ?_; refine rk_nil ?_
            exact ⟨_, rfl, S.drop (hS.slNil (es := 1)).up1⟩
          · refine wp_skip ?_; refine block_normal ?_; refine seq_normal ?_; refine wp_region ?_; refine wpO_cons ?_; refine op1_add rfl rfl rfl (by exact wrap_i64 (by omega) (by omega)) ?_; refine zw1 ?_; refine wpO_nil ?_
            refine ⟨l.length - (i + 1), by omega, i + 1, rfl, rfl, by omega, ?_, rfl⟩
            rw [List.take_add_one, hy, Option.toList_some, List.nodup_append]
            refine ⟨hnd, by simp, ?_⟩
            intro a ha b hb e
            rw [List.mem_singleton] at hb
            subst hb e
            exact hmem ha
        · rw [List.take_of_length_le (by omega)] at hnd
          simp only [if_pos hnd]
          refine wp_exit ?_; refine seq_exit ?_; refine iter_exit ?_; refine block_exit ?_; refine seq_normal ?_; refine zsr ?_; refine zw1 ?_; refine zw1 ?_; refine zw1 ?_; refine zns ?_; refine wp_ret ?_; refine ret_of ?_; refine zr ?_; refine zr ?_; refine rk_nil ?_
          exact ⟨_, rfl, hS⟩
end Go.E.Fa
