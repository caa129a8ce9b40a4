/- The two tables lie over the same pools. -/
import Derived.Test.YtlkgacbholklkaaFaGe
namespace Go.E.Fa
open Go Go.E Go.Proofs.Ytlkgacbholklkaa Go.Proofs
set_option linter.unusedVariables false
set_option linter.unusedSimpArgs false
set_option maxRecDepth 100000
structure Geo (T : Tb) : Prop where
  dom : ∀ n, n ∈ T.m.dom ↔ (ofIx T.pls n).isSome = true
  pool : ∀ n i, ofIx T.pls n = some i → T.m.pool n = (i : Nat)
theorem Geo.fresh {T : Tb} (h : Fresh T.pls T) : Geo T := by
  refine ⟨fun n => ?_, fun n i hi => ?_⟩
  · rw [h.m.dom, List.mem_flatMap]
    constructor
    · rintro ⟨p, hp, hn⟩
      have ho := h.m.ok p hp
      have hi := (rng_mem (by omega)).1 hn
      cases hx : ofIx T.pls n with
      | some i => rfl
      | none =>
        unfold ofIx at hx
        rw [List.findIdx?_eq_none_iff] at hx
        have := hx p hp
        rw [hi] at this
        cases this
    · intro hs
      obtain ⟨i, hi⟩ := Option.isSome_iff_exists.1 hs
      obtain ⟨p, hp, hn⟩ := ofIx_some hi
      have ho := h.m.ok p (List.mem_of_getElem? hp)
      exact ⟨p, List.mem_of_getElem? hp, (rng_mem (by omega)).2 hn⟩
  · obtain ⟨p, hp, hn⟩ := ofIx_some hi
    exact h.m.pool i p hp n hn
theorem Geo.wm {T : Tb} {M : Fm} (h : Geo T) (hd : M.dom = T.m.dom) (hp : M.pool = T.m.pool) : Geo (T.wm M) :=
  ⟨fun n => by show n ∈ M.dom ↔ _; rw [hd]; exact h.dom n, fun n i hi => by show M.pool n = _; rw [hp]; exact h.pool n i hi⟩
theorem known_find {T : Tb} {R : RT} {n : Int} {used : Bool} (hR : Rel T R) (hG : Geo T) : knownE R n used = findE T.m n (!used) := by
  unfold knownE findE
  by_cases hn : n ∈ T.m.dom
  · obtain ⟨i, hi⟩ := Option.isSome_iff_exists.1 ((hG.dom n).1 hn)
    have hov : ofV R.pls n = i := by unfold ofV; rw [hR.pls, hi]
    obtain ⟨p, hp, hin⟩ := ofIx_some hi
    have hok := hR.ok.pls p (List.mem_of_getElem? hp)
    have hin' := of_decide_eq_true hin
    have h1 := hok.first
    have h2 := hok.top
    obtain ⟨m, rfl⟩ : ∃ m : Nat, n = m := ⟨n.toNat, by omega⟩
    rw [hov, if_neg (by omega), if_pos hn, Int.toNat_natCast, hR.refs m (by omega)]
    cases used
    · rw [if_neg (by simp), if_neg (by simp)]
    · by_cases h0 : T.m.refs m = 0
      · rw [if_pos ⟨rfl, h0⟩, if_pos ⟨h0, rfl⟩]
      · rw [if_neg (fun h => h0 h.2), if_neg (fun h => h0 h.1)]
  · have hx : ofIx T.pls n = none := by
      cases hx : ofIx T.pls n with
      | none => rfl
      | some i => exact absurd ((hG.dom n).2 (by rw [hx]; rfl)) hn
    have hov : ofV R.pls n = -1 := by unfold ofV; rw [hR.pls, hx]
    rw [hov, if_pos (by decide), if_neg hn]
theorem Rel.set {T : Tb} {R : RT} {m : Nat} {v : Int} (hR : Rel T R) (hm : m < 4096) (hv : 0 ≤ v ∧ v ≤ 60000) : Rel (T.wm (T.m.setRefs m v)) (R.set m v) := by
  refine ⟨⟨⟨hR.ok.m.nd, fun n => ?_⟩, fun p hp => (hR.ok.pls p hp).of rfl, hR.ok.len, hR.ok.pool, hR.ok.dat⟩, hR.ix, hR.pls, ?_, ?_, ?_⟩
  · show 0 ≤ (if n = (m : Int) then v else T.m.refs n) ∧ (if n = (m : Int) then v else T.m.refs n) ≤ 60000
    have := hR.ok.m.refs n
    split <;> omega
  · show (R.refs.set (m : Int).toNat v).length = 4096
    rw [List.length_set]; exact hR.len
  · intro x hx
    rcases List.mem_or_eq_of_mem_set (show x ∈ R.refs.set (m : Int).toNat v from hx) with h | h
    · exact hR.pos x h
    · omega
  · intro n hn
    show (R.refs.set (m : Int).toNat v).getD n 0 = if (n : Int) = (m : Int) then v else T.m.refs n
    rw [Int.toNat_natCast, List.getD_eq_getElem?_getD, List.getElem?_set]
    by_cases h : m = n
    · subst h
      rw [if_pos rfl, if_pos (by rw [hR.len]; exact hm), if_pos rfl]; rfl
    · rw [if_neg h, if_neg (by omega), ← hR.refs n hn, List.getD_eq_getElem?_getD]
theorem dom_nat {T : Tb} {n : Int} (hT : TbOk T) (hG : Geo T) (hn : n ∈ T.m.dom) : ∃ m : Nat, n = m ∧ m < 4096 := by
  obtain ⟨i, hi⟩ := Option.isSome_iff_exists.1 ((hG.dom n).1 hn)
  obtain ⟨p, hp, hin⟩ := ofIx_some hi
  have hok := hT.pls p (List.mem_of_getElem? hp)
  have hin' := of_decide_eq_true hin
  have h1 := hok.first
  have h2 := hok.top
  exact ⟨n.toNat, by omega, by omega⟩
/-- Ref of both -/
theorem ref_eq {T : Tb} {R : RT} {n : Int} (hR : Rel T R) (hG : Geo T) : (refR R n).1 = (refP T.m n).1 ∧ Rel (T.wm (refP T.m n).2) (refR R n).2 ∧ Geo (T.wm (refP T.m n).2) := by
  unfold refR refP
  rw [known_find hR hG, Bool.not_true]
  by_cases he : findE T.m n false ≠ 0
  · rw [if_pos he, if_pos he]; exact ⟨rfl, hR, hG⟩
  · rw [if_neg he, if_neg he]
    have hn : n ∈ T.m.dom := by
      refine Classical.byContradiction fun h => he ?_
      unfold findE; rw [if_neg h]; decide
    obtain ⟨m, rfl, hm⟩ := dom_nat hR.ok hG hn
    have hb := hR.ok.m.refs m
    rw [Int.toNat_natCast, hR.refs m hm]
    by_cases h6 : 60000 ≤ T.m.refs m
    · rw [if_pos (by omega), if_pos h6]; exact ⟨rfl, hR, hG⟩
    · rw [if_neg (by omega), if_neg h6]
      exact ⟨rfl, hR.set hm (by omega), hG.wm rfl rfl⟩
theorem unref_eq {T : Tb} {R : RT} {n : Int} (hR : Rel T R) (hG : Geo T) : (unrefR R n).1 = (unref T.m n).1 ∧ Rel (T.wm (unref T.m n).2) (unrefR R n).2 ∧ Geo (T.wm (unref T.m n).2) := by
  have hk := known_find (n := n) (used := true) hR hG
  rw [Bool.not_true] at hk
  by_cases hn : n ∈ T.m.dom
  · by_cases h0 : T.m.refs n = 0
    · have e1 : unref T.m n = (35, T.m) := by unfold unref; rw [if_pos hn, if_pos h0]
      have e2 : findE T.m n false = 35 := by unfold findE; rw [if_pos hn, if_pos ⟨h0, rfl⟩]
      have e3 : unrefR R n = (35, R) := by unfold unrefR; rw [hk, e2, if_pos (by decide)]
      rw [e1, e3]; exact ⟨rfl, hR, hG⟩
    · obtain ⟨m, rfl, hm⟩ := dom_nat hR.ok hG hn
      have hb := hR.ok.m.refs m
      have e1 : unref T.m m = (0, T.m.setRefs m (T.m.refs m - 1)) := by unfold unref; rw [if_pos hn, if_neg h0]
      have e2 : findE T.m m false = 0 := by unfold findE; rw [if_pos hn, if_neg (fun h => h0 h.1)]
      have e3 : unrefR R m = (0, R.set m (T.m.refs m - 1)) := by unfold unrefR; rw [hk, e2, if_neg (by decide), Int.toNat_natCast, hR.refs m hm]
      rw [e1, e3]
      exact ⟨rfl, hR.set hm (by omega), hG.wm rfl rfl⟩
  · have e1 : unref T.m n = (34, T.m) := by unfold unref; rw [if_neg hn]
    have e2 : findE T.m n false = 34 := by unfold findE; rw [if_neg hn]
    have e3 : unrefR R n = (34, R) := by unfold unrefR; rw [hk, e2, if_pos (by decide)]
    rw [e1, e3]; exact ⟨rfl, hR, hG⟩
end Go.E.Fa
/- The two tables' names and pages. -/
namespace Go.E.Fa
open Go Go.E Go.Proofs.Ytlkgacbholklkaa Go.Proofs
set_option linter.unusedVariables false
set_option linter.unusedSimpArgs false
set_option maxRecDepth 100000
theorem nm_eq {T : Tb} {R : RT} {n : Int} (hR : Rel T R) (hG : Geo T) : nmR R n = nmT T n := by
  unfold nmR nmT
  rw [known_find hR hG]
  by_cases hn : n ∈ T.m.dom
  · have e2 : findE T.m n (!false) = 0 := by unfold findE; rw [if_pos hn, if_neg (by simp)]
    rw [e2, if_neg (by decide), if_pos hn]
    obtain ⟨i, hi⟩ := Option.isSome_iff_exists.1 ((hG.dom n).1 hn)
    rw [hR.pls, hi, hG.pool n i hi]
    rfl
  · have e2 : findE T.m n (!false) = 34 := by unfold findE; rw [if_neg hn]
    rw [e2, if_pos (by decide), if_neg hn]
theorem wipe_page (keep : Bool) (d : Option (Nat × List Int)) : pageOf (wipe keep d) = if keep = true then pageOf d else zeros := by
  cases d with
  | none => cases keep <;> rfl
  | some d =>
    show pageOf (if keep = false ∧ d.2 ≠ zeros then none else some d) = if keep = true then d.2 else zeros
    cases keep
    · rw [if_neg (show ¬ false = true by simp)]
      by_cases h : d.2 ≠ zeros
      · rw [if_pos ⟨rfl, h⟩]; rfl
      · rw [if_neg (fun q => h q.2)]
        exact Classical.not_not.1 h
    · rw [if_pos rfl, if_neg (fun q => by cases q.1)]; rfl
/-- the pages of the two tables -/
structure Pgs (T : Tb) (R : RT) : Prop where
  ok : PgOk R
  eq : ∀ n ∈ T.m.dom, pageOf (T.m.dat n) = R.page n
theorem Pgs.fresh {T : Tb} {pls : List Pl} (hG : Geo T) (hT : TbOk T) (hd : ∀ n, T.m.dat n = none) : Pgs T (R0 pls) := by
  refine ⟨⟨by simp [R0], fun l hl => ?_⟩, fun n hn => ?_⟩
  · rw [List.eq_of_mem_replicate hl]; decide
  · obtain ⟨m, rfl, hm⟩ := dom_nat hT hG hn
    rw [hd]
    unfold RT.page R0
    rw [Int.toNat_natCast, List.getD_eq_getElem?_getD, List.getElem?_replicate, if_pos hm]
    rfl
/-- a page is put on both sides -/
theorem Pgs.put {T : Tb} {R : RT} {m b : Nat} {l : List Int} (hG : Geo T) (hT : TbOk T) (h : Pgs T R) (hm : m < 4096) (hl : l.length = 64) : Pgs (T.wm (T.m.setDat m (some (b, l)))) (R.setPage m l) := by
  refine ⟨⟨?_, ?_⟩, fun n hn => ?_⟩
  · show (R.pgs.set (m : Int).toNat l).length = 4096
    rw [List.length_set]; exact h.ok.len
  · exact set_all h.ok.pg hl
  · show pageOf (if n = (m : Int) then some (b, l) else T.m.dat n) = (R.pgs.set (m : Int).toNat l).getD n.toNat []
    obtain ⟨k, rfl, hk⟩ := dom_nat hT hG (show n ∈ T.m.dom from hn)
    rw [Int.toNat_natCast, Int.toNat_natCast, List.getD_eq_getElem?_getD, List.getElem?_set]
    by_cases h1 : m = k
    · subst h1
      rw [if_pos rfl, if_pos rfl, if_pos (by rw [h.ok.len]; exact hm)]; rfl
    · rw [if_neg (by omega), if_neg h1, h.eq _ hn]
      unfold RT.page
      rw [Int.toNat_natCast, List.getD_eq_getElem?_getD]
theorem io_eq {T : Tb} {R : RT} {n off k : Int} (hR : Rel T R) (hG : Geo T) : readE R n off k = ioE T.m n off k := by
  unfold readE
  rw [known_find hR hG, Bool.not_true]
  by_cases hn : n ∈ T.m.dom
  · by_cases h0 : T.m.refs n = 0
    · have e2 : findE T.m n false = 35 := by unfold findE; rw [if_pos hn, if_pos ⟨h0, rfl⟩]
      have e1 : ioE T.m n off k = 35 := by unfold ioE; rw [if_pos hn, if_pos h0]
      rw [e1, e2, if_pos (by decide)]
    · have e2 : findE T.m n false = 0 := by unfold findE; rw [if_pos hn, if_neg (fun h => h0 h.1)]
      have e1 : ioE T.m n off k = if InPage off k then 0 else 14 := by unfold ioE; rw [if_pos hn, if_neg h0]
      rw [e1, e2, if_neg (by decide)]
  · have e2 : findE T.m n false = 34 := by unfold findE; rw [if_neg hn]
    have e1 : ioE T.m n off k = 34 := by unfold ioE; rw [if_neg hn]
    rw [e1, e2, if_pos (by decide)]
theorem io_dom {M : Fm} {n off k : Int} (h : ioE M n off k = 0) : n ∈ M.dom := by
  refine Classical.byContradiction fun hn => ?_
  unfold ioE at h
  rw [if_neg hn] at h
  cases h
theorem read_eq {T : Tb} {R : RT} {n off k : Int} (hR : Rel T R) (hG : Geo T) (hP : Pgs T R) : readR R n off k = readM T.m n off k := by
  unfold readR readM
  rw [io_eq hR hG]
  by_cases h : ioE T.m n off k = 0
  · rw [if_pos h, if_pos h, hP.eq n (io_dom h)]
  · rw [if_neg h, if_neg h]
end Go.E.Fa
/- Taking a free frame drops it from the free ones. -/
namespace Go.E.Fa
open Go Go.E Go.Proofs.Ytlkgacbholklkaa Go.Proofs
set_option linter.unusedVariables false
set_option linter.unusedSimpArgs false
set_option maxRecDepth 100000
theorem frR_set {R : RT} {m n : Nat} (hl : R.refs.length = 4096) (hm : m < 4096) : frR (R.set m 1) n = (decide (n ≠ m) && frR R n) := by
  unfold frR
  show decide ((R.refs.set (m : Int).toNat 1).getD n 0 = 0) = _
  rw [Int.toNat_natCast, List.getD_eq_getElem?_getD, List.getElem?_set, List.getD_eq_getElem?_getD]
  by_cases h : m = n
  · subst h
    rw [if_pos rfl, if_pos (by omega)]
    simp
  · rw [if_neg h]
    have : decide (n ≠ m) = true := decide_eq_true fun e => h e.symm
    rw [this, Bool.true_and]
theorem freeL_nodup (fr : Nat → Bool) (F E : Nat) : (freeL fr F E).Nodup := List.Nodup.sublist List.filter_sublist List.nodup_range'
theorem freeL_set {R : RT} {m F E : Nat} (hl : R.refs.length = 4096) (hm : m < 4096) : freeL (frR (R.set m 1)) F E = (freeL (frR R) F E).filter fun n => decide (n ≠ m) := by
  unfold freeL
  rw [List.filter_filter]
  congr 1
  funext n
  exact frR_set hl hm
theorem free_head {R : RT} {m F E : Nat} {r : List Nat} (hl : R.refs.length = 4096) (hm : m < 4096) (h : freeL (frR R) F E = m :: r) : freeL (frR (R.set m 1)) F E = r := by
  have hn := freeL_nodup (frR R) F E
  rw [h, List.nodup_cons] at hn
  rw [freeL_set hl hm, h, List.filter_cons_of_neg (by simp), List.filter_eq_self]
  intro x hx
  exact decide_eq_true fun e => hn.1 (e ▸ hx)
theorem free_last {R : RT} {m F E : Nat} {r : List Nat} (hl : R.refs.length = 4096) (hm : m < 4096) (h : freeL (frR R) F E = r ++ [m]) : freeL (frR (R.set m 1)) F E = r := by
  have hn := freeL_nodup (frR R) F E
  rw [h, List.nodup_append] at hn
  rw [freeL_set hl hm, h, List.filter_append, List.filter_cons_of_neg (by simp), List.filter_nil, List.append_nil, List.filter_eq_self]
  intro x hx
  exact decide_eq_true fun e => hn.2.2 x hx m (by simp) e
end Go.E.Fa
/- What the reference's Alloc hands out. -/
namespace Go.E.Fa
open Go Go.E Go.Proofs.Ytlkgacbholklkaa Go.Proofs
set_option linter.unusedVariables false
set_option linter.unusedSimpArgs false
set_option maxRecDepth 100000
def plF (p : Pl) : Nat := p.first.toNat
def plE (p : Pl) : Nat := (p.first + p.count).toNat
def atR (fr : Nat → Bool) (cnt al : Nat) (top : Bool) (p : Pl) : Int := atOf cnt al top (runsAt fr (plE p) (plF p))
def runR (fr : Nat → Bool) (cnt al : Nat) (top : Bool) : List Pl → List Int
  | [] => []
  | p :: ps => if 0 ≤ atR fr cnt al top p then consec (atR fr cnt al top p) cnt else runR fr cnt al top ps
def flR (fr : Nat → Bool) (p : Pl) : List Nat := freeL fr (plF p) (plE p)
def ordR (fr : Nat → Bool) (top : Bool) (p : Pl) : List Int := if top then (ints (flR fr p)).reverse else ints (flR fr p)
def cntR (fr : Nat → Bool) (ps : List Pl) : Nat := (ps.map fun p => (flR fr p).length).sum
def takesR (R : RT) (l : List Int) : RT := l.foldl takeR R
def singR (cnt : Nat) (top : Bool) : List Pl → RT → List Int → RT × List Int
  | [], R, out => (R, out)
  | p :: ps, R, out => singR cnt top ps (takesR R ((ordR (frR R) top p).take (cnt - out.length))) (out ++ (ordR (frR R) top p).take (cnt - out.length))
def allocQ (R : RT) (cnt al : Int) (cg top : Bool) (ns : List ByteArray) : Int × List Int × RT :=
  if cnt < 1 ∨ 4096 < cnt then (34, [], R)
  else if isPow al = false ∨ (cg = false ∧ al ≠ 1) then (14, [], R)
  else if namesE R.pls ns ≠ 0 then (namesE R.pls ns, [], R)
  else if cg = true then
    (if (runR (frR R) cnt.toNat al.toNat top (askedP R.pls ns)) = [] then (23, [], R)
     else (0, runR (frR R) cnt.toNat al.toNat top (askedP R.pls ns), takesR R (runR (frR R) cnt.toNat al.toNat top (askedP R.pls ns))))
  else if (cntR (frR R) (askedP R.pls ns) : Int) < cnt then (23, [], R)
  else (0, (singR cnt.toNat top (askedP R.pls ns) R []).2, (singR cnt.toNat top (askedP R.pls ns) R []).1)

theorem ofIx_is {pls : List Pl} {n : Int} {p : Pl} (hp : p ∈ pls) (hn : inR p n = true) : (ofIx pls n).isSome = true := by
  unfold ofIx
  rw [List.findIdx?_isSome, List.any_eq_true]
  exact ⟨p, hp, hn⟩
theorem takeR_pls (R : RT) (n : Int) : (takeR R n).pls = R.pls := by unfold takeR; split <;> rfl
theorem takeR_refs (R : RT) (n : Int) : (takeR R n).refs = R.refs.set n.toNat 1 := by unfold takeR; split <;> rfl
theorem takeR_fr (R : RT) (n : Int) : frR (takeR R n) = frR (R.set n 1) := by
  funext k
  unfold frR
  rw [takeR_refs]; rfl
theorem takeR_ok {R : RT} {n : Int} (hR : RtOk R) : RtOk (takeR R n) := by
  refine ⟨by rw [takeR_pls]; exact hR.l, by rw [takeR_pls]; exact hR.po, by rw [takeR_refs, List.length_set]; exact hR.len, ?_⟩
  rw [takeR_refs]
  intro x hx
  rcases List.mem_or_eq_of_mem_set hx with h | h
  · exact hR.bd x h
  · omega
theorem takeR_pg {R : RT} {n : Int} (hP : PgOk R) : PgOk (takeR R n) := by
  unfold takeR
  split
  · exact ⟨hP.len, hP.pg⟩
  · refine ⟨by show (R.pgs.set n.toNat zeros).length = _; rw [List.length_set]; exact hP.len, ?_⟩
    show ∀ l ∈ R.pgs.set n.toNat zeros, _
    intro l hl
    rcases List.mem_or_eq_of_mem_set hl with h | h
    · exact hP.pg l h
    · rw [h]; rfl
theorem takesR_pls : ∀ (l : List Int) (R : RT), (takesR R l).pls = R.pls
  | [], _ => rfl
  | a :: l, R => by show (takesR (takeR R a) l).pls = _; rw [takesR_pls l, takeR_pls]
theorem takesR_ok : ∀ (l : List Int) {R : RT}, RtOk R → RtOk (takesR R l)
  | [], _, h => h
  | a :: l, R, h => takesR_ok l (takeR_ok h)
theorem takesR_pg : ∀ (l : List Int) {R : RT}, PgOk R → PgOk (takesR R l)
  | [], _, h => h
  | a :: l, R, h => takesR_pg l (takeR_pg h)
theorem takesR_snoc (R : RT) (l : List Int) (a : Int) : takesR R (l ++ [a]) = takeR (takesR R l) a := by unfold takesR; rw [List.foldl_append]; rfl
theorem asked_mem {pls : List Pl} {ns : List ByteArray} {p : Pl} (hok : ∀ s ∈ ns, nameIx pls s ≠ none) (h : p ∈ askedP pls ns) : p ∈ pls := by
  unfold askedP at h
  split at h
  · exact (List.mem_filter.1 h).1
  · obtain ⟨s, hs, rfl⟩ := List.mem_map.1 h
    unfold poolN
    cases hx : nameIx pls s with
    | none => exact absurd hx (hok s hs)
    | some j =>
      have hj := nameIx_lt hx
      rw [Option.getD_some, List.getD_eq_getElem?_getD, List.getElem?_eq_getElem hj, Option.getD_some]
      exact List.getElem_mem hj
theorem asked_len {pls : List Pl} {ns : List ByteArray} : (askedP pls ns).length ≤ pls.length + ns.length := by
  unfold askedP
  split
  · exact Nat.le_trans (List.length_filter_le _ _) (by omega)
  · rw [List.length_map]; omega
theorem names_ok {pls : List Pl} {ns : List ByteArray} (h : namesE pls ns = 0) : ns.length ≤ 16 ∧ (∀ s ∈ ns, nameIx pls s ≠ none) ∧ ns.Nodup := by
  unfold namesE at h
  split at h
  · omega
  split at h
  · omega
  rename_i h1 h2
  split at h
  · rename_i h3
    exact ⟨by omega, fun s hs e => h2 ⟨s, hs, e⟩, h3⟩
  · omega
theorem freeL_succ {fr : Nat → Bool} {F f : Nat} (h : F ≤ f) : freeL fr F (f + 1) = freeL fr F f ++ if fr f = true then [f] else [] := by
  unfold freeL
  rw [show f + 1 - F = (f - F) + 1 by omega, List.range'_concat, List.filter_append, Nat.one_mul, show F + (f - F) = f by omega]
  congr 1
  rw [List.filter_cons]
  split <;> rfl
theorem freeL_len (fr : Nat → Bool) (F E : Nat) : (freeL fr F E).length ≤ E - F := by
  unfold freeL
  refine Nat.le_trans (List.length_filter_le _ _) ?_
  rw [List.length_range']; omega
theorem cntR_snoc (fr : Nat → Bool) (ps : List Pl) (p : Pl) : cntR fr (ps ++ [p]) = cntR fr ps + (flR fr p).length := by simp [cntR]
/-- what free finds is the next frame in order -/
theorem best_ord {R : RT} {p : Pl} {top : Bool} {F E : Nat} {w : Int} (hl : R.refs.length = 4096) (hF : p.first = F) (hE : p.first + p.count = E) (hE4 : E ≤ 4096) (hFE : F ≤ E) (h : BestTo (frR R) E 1 1 F top E w) :
    (w = -1 ∧ ordR (frR R) top p = []) ∨ ∃ (m : Nat) (r : List Int), w = m ∧ F ≤ m ∧ m < E ∧ ordR (frR R) top p = (m : Int) :: r ∧ ordR (frR (takeR R m)) top p = r := by
  have eF : plF p = F := by unfold plF; omega
  have eE : plE p = E := by unfold plE; omega
  unfold ordR flR
  rw [eF, eE]
  cases top
  · rw [if_neg (by simp)]
    rcases best_first hFE h with ⟨h1, h2⟩ | ⟨m, r, h1, h2, h3, h4⟩
    · exact .inl ⟨h1, by rw [h2]; rfl⟩
    · refine .inr ⟨m, ints r, h1, h2, h3, by rw [h4]; rfl, ?_⟩
      rw [if_neg (by simp), takeR_fr, free_head hl (by omega) h4]
  · rw [if_pos rfl]
    rcases best_last hFE h with ⟨h1, h2⟩ | ⟨m, r, h1, h2, h3, h4⟩
    · exact .inl ⟨h1, by rw [h2]; rfl⟩
    · refine .inr ⟨m, (ints r).reverse, h1, h2, h3, by rw [h4, ints_app, List.reverse_append]; rfl, ?_⟩
      rw [if_pos rfl, takeR_fr, free_last hl (by omega) h4]
end Go.E.Fa
