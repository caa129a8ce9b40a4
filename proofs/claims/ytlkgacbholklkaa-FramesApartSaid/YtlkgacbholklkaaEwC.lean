/-
  THE EVALUATOR, PART C: the simulation's steps on memory: a row read, a row written, a new block, a block given up.
-/
import Derived.Test.YtlkgacbholklkaaEwB
namespace Go.E
open Go
theorem undefR (φ : Phi) : VR φ undef undef := .tuple .nil

/-! ### cells of a related block -/
theorem cell_eq {w : World} {g j : Nat} {C : Array Value} {el : TypeId} {fr : Nat × Nat} (h : w.heap[g]? = some (.cells C el fr)) : w.cell? ⟨g, j, none⟩ = C[j]? := by
  simp [World.cell?, h]

theorem row_sim {φ : Phi} {H : AHeap} {w : World} (hs : Sim φ H w) {b o n : Nat} {m : Emb} (hb : φ b = some m) {cs : List Value} (h : H.row b o n = some cs) :
    ∃ cs', VRs φ cs cs' ∧ cs.length = n ∧ cs'.length = n ∧ (∀ v ∈ cs, v.oneCell' = true) ∧ (∀ (j : Nat) v, cs'[j]? = some v → w.cell? ⟨m.blk, m.sh + o + j, none⟩ = some v) := by
  have ho := hs.obj b m hb
  unfold AHeap.row at h
  split at h
  case h_2 => cases h
  rename_i full es ro hg
  rw [hg] at ho
  obtain ⟨hl, hr, _, hone, C, el, fr, hC, hsz, hcells, _⟩ := ho
  split at h
  case isFalse => cases h
  rename_i hle
  cases h
  refine ⟨(C.toList.drop (m.sh + o)).take n, ?_, ?_, ?_, ?_, ?_⟩
  · refine VRs.of (by simp; omega) fun i v hv => ?_
    rw [List.getElem?_take] at hv
    split at hv
    case isFalse => cases hv
    rename_i hi
    rw [List.getElem?_drop] at hv
    obtain ⟨v', h1, h2⟩ := hcells _ _ hv
    refine ⟨v', ?_, h2⟩
    rw [List.getElem?_take, if_pos hi, List.getElem?_drop]
    simpa [Nat.add_assoc] using h1
  · simp; omega
  · simp; omega
  · intro v hv
    exact hone v (List.mem_of_mem_drop (List.mem_of_mem_take hv))
  · intro j v hv
    rw [List.getElem?_take] at hv
    split at hv
    case isFalse => cases hv
    rw [List.getElem?_drop] at hv
    rw [cell_eq hC]
    simpa [Nat.add_assoc] using hv

/-! ### a step that leaves the maps as they are -/
theorem ObjR.mono {φ ψ : Phi} (h : φ.le ψ) {m : Emb} {w w' : World} {o : AObj} (hw : w'.heap[m.blk]? = w.heap[m.blk]?) (ho : ObjR φ m w o) : ObjR ψ m w' o := by
  cases o with
  | dead => trivial
  | cells cs es ro =>
    obtain ⟨a, b, c, c2, C, el, fr, d, e, f, g⟩ := ho
    exact ⟨a, b, c, c2, C, el, fr, hw.trans d, e, fun i v hv => let ⟨v', h1, h2⟩ := f i v hv; ⟨v', h1, h2.mono h⟩, g⟩
  | map es clock =>
    obtain ⟨es', a, b⟩ := ho
    exact ⟨es', hw.trans a, b.mono h⟩
  | siter s pos => exact ⟨ho.1, hw.trans ho.2⟩
  | loop st pend T ps asg body =>
    obtain ⟨z, r, a, b, c, d, e⟩ := ho
    exact ⟨z, r, hw.trans a, b, c, d.mono h, e⟩
  | iter mp since seen last =>
    obtain ⟨z, mp', a, b⟩ := ho
    exact ⟨z, mp', hw.trans a, b.mono h⟩
  | table es =>
    obtain ⟨es', clock, a, b⟩ := ho
    exact ⟨es', clock, hw.trans a, b.mono h⟩

theorem Sim.blk_lt {φ : Phi} {H : AHeap} {w : World} (hs : Sim φ H w) {b : Nat} {m : Emb} (hb : φ b = some m) (hl : H.get b ≠ .dead) : m.blk < w.heap.size := by
  have ho := hs.obj b m hb
  cases hg : H.get b with
  | dead => exact absurd hg hl
  | cells cs es ro => rw [hg] at ho; obtain ⟨_, _, _, _, C, el, fr, d, _⟩ := ho; exact (Array.getElem?_eq_some_iff.1 d).1
  | map es clock => rw [hg] at ho; obtain ⟨es', a, _⟩ := ho; exact (Array.getElem?_eq_some_iff.1 a).1
  | siter s pos => rw [hg] at ho; exact (Array.getElem?_eq_some_iff.1 ho.2).1
  | loop st pend T ps asg body => rw [hg] at ho; obtain ⟨_, r, a, _⟩ := ho; exact (Array.getElem?_eq_some_iff.1 a).1
  | iter mp since seen last => rw [hg] at ho; obtain ⟨_, mp', a, _⟩ := ho; exact (Array.getElem?_eq_some_iff.1 a).1
  | table es => rw [hg] at ho; obtain ⟨es', clock, a, _⟩ := ho; exact (Array.getElem?_eq_some_iff.1 a).1

theorem Stp.drew {φ : Phi} {H : AHeap} {w : World} (hs : Sim φ H w) (n : Nat) : Stp φ H w φ H { w with drawn := n } :=
  ⟨.refl _, ⟨hs.dom, fun b m hb => ObjR.mono (.refl _) rfl (hs.obj b m hb), hs.inj⟩, rfl, rfl, rfl, Nat.le_refl _, fun _ _ _ => rfl, fun _ _ h => h, Nat.le_refl _, fun _ _ h => ⟨rfl, h⟩⟩

theorem Stp.put' {φ : Phi} {H : AHeap} {w w' : World} (hs : Sim φ H w) {b : Nat} {m : Emb} (hb : φ b = some m) (hw : (H.get b).writable = true) {o : AObj}
    (ho : ObjR φ m w' o) (hos : w'.os = w.os) (htape : w'.tape = w.tape) (hout : w'.output = w.output) (hsize : w'.heap.size = w.heap.size) (hoth : ∀ k, k ≠ m.blk → w'.heap[k]? = w.heap[k]?) :
    Stp φ H w φ (H.set b o) w' := by
  refine ⟨.refl _, ⟨fun b m h => hs.dom b m h, ?_, ?_⟩, hos, htape, hout, by omega, ?_, ?_, Nat.le_refl _, ?_⟩
  · intro c mc hc
    rw [AHeap.get_set]
    by_cases e : c = b
    · subst e; rw [hb] at hc; cases hc; simpa using ho
    · rw [if_neg e]
      by_cases eb : mc.blk = m.blk
      · have := hs.inj b c m mc hb hc eb.symm (Ne.symm e) hw
        rw [this]; trivial
      · exact ObjR.mono (.refl _) (hoth _ eb) (hs.obj c mc hc)
  · intro b1 b2 m1 m2 h1 h2 he hne hwr
    rw [AHeap.get_set] at hwr ⊢
    by_cases e1 : b1 = b
    · subst e1
      rw [if_neg (Ne.symm hne)]
      exact hs.inj b1 b2 m1 m2 h1 h2 he hne hw
    · rw [if_neg e1] at hwr
      have h3 := hs.inj b1 b2 m1 m2 h1 h2 he hne hwr
      by_cases e2 : b2 = b
      · subst e2; rw [h3] at hw; cases hw
      · rw [if_neg e2]; exact h3
  · intro k hk hn
    refine hoth k fun e => hn ⟨b, m, hb, e.symm, hw⟩
  · rintro k hk ⟨c, mc, hc, rfl, hcw⟩
    rw [AHeap.get_set] at hcw
    by_cases e : c = b
    · subst e; exact ⟨c, mc, hc, rfl, hw⟩
    · rw [if_neg e] at hcw; exact ⟨c, mc, hc, rfl, hcw⟩
  · intro c hc hn
    rw [AHeap.get_set, if_neg (by intro e; subst e; rw [hb] at hn; cases hn)]
    exact ⟨rfl, hn⟩

theorem Stp.put {φ : Phi} {H : AHeap} {w w' : World} (hs : Sim φ H w) {b : Nat} {m : Emb} (hb : φ b = some m) (hw : (H.get b).writable = true) {o : AObj} (_ : o.writable = true)
    (ho : ObjR φ m w' o) (hos : w'.os = w.os) (htape : w'.tape = w.tape) (hout : w'.output = w.output) (hsize : w'.heap.size = w.heap.size) (hoth : ∀ k, k ≠ m.blk → w'.heap[k]? = w.heap[k]?) :
    Stp φ H w φ (H.set b o) w' := Stp.put' hs hb hw ho hos htape hout hsize hoth

theorem Stp.kill {φ : Phi} {H : AHeap} {w : World} (hs : Sim φ H w) {b : Nat} {m : Emb} (hb : φ b = some m) : Stp φ H w φ (H.set b .dead) w := by
  refine ⟨.refl _, ⟨fun b m h => hs.dom b m h, ?_, ?_⟩, rfl, rfl, rfl, Nat.le_refl _, fun _ _ _ => rfl, ?_, Nat.le_refl _, ?_⟩
  · intro c mc hc
    rw [AHeap.get_set]
    split
    · trivial
    · exact hs.obj c mc hc
  · intro b1 b2 m1 m2 h1 h2 he hne hwr
    rw [AHeap.get_set] at hwr ⊢
    split at hwr
    · cases hwr
    · split
      · rfl
      · exact hs.inj b1 b2 m1 m2 h1 h2 he hne hwr
  · rintro k hk ⟨c, mc, hc, rfl, hcw⟩
    rw [AHeap.get_set] at hcw
    split at hcw
    · cases hcw
    · exact ⟨c, mc, hc, rfl, hcw⟩
  · intro c hc hn
    rw [AHeap.get_set, if_neg (by intro e; subst e; rw [hb] at hn; cases hn)]
    exact ⟨rfl, hn⟩

def Phi.add (φ : Phi) (b : Nat) (m : Emb) : Phi := fun c => if c = b then some m else φ c

theorem Phi.add_le {φ : Phi} {b : Nat} {m : Emb} (h : φ b = none) : φ.le (φ.add b m) := by
  intro c mc hc
  unfold Phi.add
  rw [if_neg (by intro e; subst e; rw [h] at hc; cases hc)]
  exact hc

theorem Phi.add_self (φ : Phi) (b : Nat) (m : Emb) : (φ.add b m) b = some m := by simp [Phi.add]

theorem Sim.fresh {φ : Phi} {H : AHeap} {w : World} (hs : Sim φ H w) : φ H.next = none := by
  cases h : φ H.next with
  | none => rfl
  | some m => exact absurd (hs.dom _ _ h) (by omega)

theorem Stp.adopt {φ : Phi} {H : AHeap} {w : World} (hs : Sim φ H w) {m : Emb} {o : AObj} (ho : ObjR (φ.add H.next m) m w o)
    (hfree : ∀ b mb, φ b = some mb → mb.blk = m.blk → H.get b = .dead) (k₀ : Nat) (hk : ∀ k, k < k₀ → k = m.blk → Wr φ H k) :
    Sim (φ.add H.next m) (H.add o) w ∧ (∀ k, k < k₀ → Wr (φ.add H.next m) (H.add o) k → Wr φ H k) := by
  have hfr := hs.fresh
  refine ⟨⟨?_, ?_, ?_⟩, ?_⟩
  · intro b mb h
    unfold Phi.add at h
    split at h
    · rename_i e; subst e; simp
    · have := hs.dom b mb h; simp; omega
  · intro b mb h
    rw [AHeap.get_add]
    unfold Phi.add at h
    split at h
    · rename_i e; cases h; rw [if_pos e]; exact ho
    · rename_i e; rw [if_neg e]; exact ObjR.mono (Phi.add_le hfr) rfl (hs.obj b mb h)
  · intro b1 b2 m1 m2 h1 h2 he hne hwr
    rw [AHeap.get_add] at hwr ⊢
    unfold Phi.add at h1 h2
    by_cases e1 : b1 = H.next
    · rw [if_pos e1] at h1; cases h1
      have e2 : b2 ≠ H.next := fun e => hne (e1.trans e.symm)
      rw [if_neg e2] at h2 ⊢
      exact hfree b2 m2 h2 he.symm
    · rw [if_neg e1] at h1 hwr
      by_cases e2 : b2 = H.next
      · rw [if_pos e2] at h2; cases h2
        have := hfree b1 m1 h1 he
        rw [this] at hwr; cases hwr
      · rw [if_neg e2] at h2 ⊢
        exact hs.inj b1 b2 m1 m2 h1 h2 he hne hwr
  · rintro k hk' ⟨c, mc, hc, rfl, hcw⟩
    rw [AHeap.get_add] at hcw
    unfold Phi.add at hc
    split at hc
    · cases hc; exact hk _ hk' rfl
    · rename_i e; rw [if_neg e] at hcw; exact ⟨c, mc, hc, rfl, hcw⟩

theorem Stp.alloc {φ : Phi} {H : AHeap} {w : World} (hs : Sim φ H w) {m : Emb} {o : AObj} {ob : Obj} (hm : m.blk = w.heap.size)
    (ho : ObjR (φ.add H.next m) m (w.alloc ob) o) : Stp φ H w (φ.add H.next m) (H.add o) (w.alloc ob) := by
  have hfr := hs.fresh
  have hold : ∀ k, k < w.heap.size → (w.alloc ob).heap[k]? = w.heap[k]? := fun k hk => heap_alloc_old w ob k hk
  have hlt : ∀ {b mb}, φ b = some mb → H.get b ≠ .dead → mb.blk < w.heap.size := fun hb hd => hs.blk_lt hb hd
  have hs' : Sim φ H (w.alloc ob) := ⟨hs.dom, fun b mb hb => by
    by_cases hd : H.get b = .dead
    · rw [hd]; trivial
    · exact ObjR.mono (.refl _) (hold _ (hlt hb hd)) (hs.obj b mb hb), hs.inj⟩
  obtain ⟨h1, h2⟩ := Stp.adopt hs' (m := m) (o := o) ho (fun b mb hb he => Classical.byContradiction fun hd => by have := hlt hb hd; omega) w.heap.size (fun k hk he => by omega)
  refine ⟨Phi.add_le hfr, h1, rfl, rfl, rfl, by simp, fun k hk _ => hold k hk, h2, by simp, ?_⟩
  intro b hb hn
  rw [AHeap.get_add, if_neg (by omega)]
  refine ⟨rfl, ?_⟩
  unfold Phi.add; rw [if_neg (by omega)]; exact hn

theorem Stp.allocCells {φ : Phi} {H : AHeap} {w : World} (hs : Sim φ H w) {cs cs' extra : List Value} (hr : VRs φ cs cs') (hone : ∀ v ∈ cs, v.oneCell' = true) (es : Nat) (el : TypeId) (fr : Nat × Nat)
    (hfr : fr.1 = fr.2 ∨ cs'.length + extra.length ≤ fr.1) :
    Stp φ H w (φ.add H.next ⟨w.heap.size, 0, cs.length, cs.length + extra.length, es⟩) (H.add (.cells cs es false)) (w.alloc (.cells (cs' ++ extra).toArray el fr)) := by
  have hl := hr.length
  refine Stp.alloc hs rfl ⟨rfl, by simp, rfl, hone, (cs' ++ extra).toArray, el, fr, heap_alloc_new w _, by simp; omega, ?_, fun _ => by simpa using hfr⟩
  intro i v hv
  obtain ⟨v', h1, h2⟩ := hr.get i v hv
  refine ⟨v', ?_, h2.mono (Phi.add_le hs.fresh)⟩
  have hi : i < cs'.length := (List.getElem?_eq_some_iff.1 h1).1
  simp [List.getElem?_append_left hi, h1]

/-! ### a row written -/
theorem run_storeCells_gen {P : Program} (g o : Nat) (el : TypeId) (fr : Nat × Nat) : ∀ (vs : List Value) (i : Nat) (cur : Array Value) (w : World), w.heap[g]? = some (.cells cur el fr) →
    (fr.1 = fr.2 ∨ cur.size ≤ fr.1) → o + i + vs.length ≤ cur.size → (∀ v ∈ vs, v.oneCell' = true) →
    (storeCells ⟨g, o, none⟩ vs i).run P w = .ok () (w.setRow g (cur.toList.take (o + i) ++ vs ++ cur.toList.drop (o + i + vs.length)).toArray)
  | [], i, cur, w, hg, _, _, _ => by
    simp only [storeCells, Sem.run_pure, List.append_nil, List.length_nil, Nat.add_zero, List.take_append_drop]
    rw [setRow_self w g _ el fr (by simpa using hg)]
  | v :: vs, i, cur, w, hg, hfr, hle, h1 => by
    have hv : v.oneCell' = true := h1 v (by simp)
    simp only [List.length_cons] at hle
    have hadd : (⟨g, o, none⟩ : Addr).add i = ⟨g, o + i, none⟩ := by unfold Addr.add; split <;> simp_all
    have hcell : w.cell? ⟨g, o + i, none⟩ = some (cur[o + i]'(by omega)) := by rw [cell_eq hg]; simp
    have hfz : w.frozen? ⟨g, o + i, none⟩ = false := by
      obtain ⟨lo, hi⟩ := fr
      simp [World.frozen?, hg]; intro h; simp at hfr; omega
    simp only [storeCells, Sem.run_bind, hadd, run_store P w _ v _ hv, hcell, hfz]
    simp only [Bool.false_eq_true, if_false, Result.andThen]
    rw [setCell_eq_setRow w g (o + i) cur el fr v hg]
    have hg' := setRow_heap w g cur (cur.setIfInBounds (o + i) v) el fr hg
    rw [run_storeCells_gen g o el fr vs (i + 1) _ _ hg' (by simpa using hfr) (by simp; omega) (fun u hu => h1 u (by simp [hu])), setRow_setRow]
    congr 2
    apply Array.ext'
    simp only [Array.toList_setIfInBounds]
    apply List.ext_getElem?
    intro j
    simp only [List.length_cons]
    rcases Nat.lt_trichotomy j (o + i) with hj | hj | hj
    · simp [List.getElem?_append, List.getElem?_set, List.getElem?_take, List.length_take, List.getElem?_cons]
      grind
    · subst hj
      simp [List.getElem?_append, List.getElem?_set, List.getElem?_take, List.length_take, List.getElem?_cons]
      grind
    · simp [List.getElem?_append, List.getElem?_set, List.getElem?_take, List.length_take, List.getElem?_cons, List.getElem?_drop]
      grind

theorem VR.oneCell {φ : Phi} {v v' : Value} (h : VR φ v v') : v'.oneCell' = v.oneCell' := by
  cases h
  case junk h _ => exact h
  all_goals rfl

theorem VRs.allOne {φ : Phi} {xs ys : List Value} (h : VRs φ xs ys) (hx : ∀ v ∈ xs, v.oneCell' = true) : ∀ v ∈ ys, v.oneCell' = true := by
  intro v hv
  obtain ⟨i, hi⟩ := List.getElem?_of_mem hv
  obtain ⟨u, h1, h2⟩ := h.get' i v hi
  rw [h2.oneCell]
  exact hx u (List.mem_of_getElem? h1)

theorem putRow_sim {P : Program} {φ : Phi} {H H' : AHeap} {w : World} (hs : Sim φ H w) {b o : Nat} {m : Emb} (hb : φ b = some m) {xs xs' : List Value} (hx : VRs φ xs xs') (h : H.putRow b o xs = some H') :
    ∃ w', (storeCells ⟨m.blk, m.sh + o, none⟩ xs').run P w = .ok () w' ∧ Stp φ H w φ H' w' := by
  have ho := hs.obj b m hb
  unfold AHeap.putRow at h
  split at h
  case h_2 => cases h
  rename_i full es ro hg
  rw [hg] at ho
  obtain ⟨hl, hr, hes, hone, C, el, fr, hC, hsz, hcells, hfr⟩ := ho
  split at h
  case isFalse => cases h
  rename_i hcond
  obtain ⟨rfl, hle, hxone⟩ := hcond
  cases h
  have hxone' : ∀ v ∈ xs, v.oneCell' = true := by simpa using hxone
  have hlen := hx.length
  have hrun := run_storeCells_gen (P := P) m.blk (m.sh + o) el fr xs' 0 C w hC (hfr rfl) (by omega) (hx.allOne hxone')
  simp only [Nat.add_zero] at hrun
  refine ⟨_, hrun, Stp.put hs hb (by rw [hg]; rfl) rfl ?_ rfl rfl rfl (by simp) (fun k hk => setRow_other w m.blk k _ hk)⟩
  refine ⟨by simp; omega, hr, hes, ?_, _, el, fr, setRow_heap w m.blk C _ el fr hC, by simp; omega, ?_, fun _ => by have := hfr rfl; simp; omega⟩
  · intro v hv
    simp only [List.mem_append] at hv
    rcases hv with (hv | hv) | hv
    · exact hone v (List.mem_of_mem_take hv)
    · exact hxone' v hv
    · exact hone v (List.mem_of_mem_drop hv)
  · intro i v hv
    rw [List.getElem?_append, List.getElem?_append] at hv
    simp only [List.length_append, List.length_take, Nat.min_eq_left (show o ≤ full.length by omega)] at hv
    simp only [List.getElem?_toArray]
    rw [List.getElem?_append, List.getElem?_append]
    simp only [List.length_append, List.length_take, Array.length_toList, Nat.min_eq_left (show m.sh + o ≤ C.size by omega)]
    split at hv
    · rename_i h1
      rw [if_pos (by omega)]
      split at hv
      · rename_i h2
        rw [if_pos (by omega)]
        rw [List.getElem?_take, if_pos h2] at hv
        rw [List.getElem?_take, if_pos (by omega)]
        simpa using hcells i v hv
      · rename_i h2
        rw [if_neg (by omega)]
        have := hx.get _ v hv
        rwa [show m.sh + i - (m.sh + o) = i - o by omega]
    · rename_i h1
      rw [if_neg (by omega)]
      rw [List.getElem?_drop] at hv ⊢
      rw [show o + xs.length + (i - (o + xs.length)) = i by omega] at hv
      rw [show m.sh + o + xs'.length + (m.sh + i - (m.sh + o + xs'.length)) = m.sh + i by omega]
      simpa using hcells i v hv

end Go.E
