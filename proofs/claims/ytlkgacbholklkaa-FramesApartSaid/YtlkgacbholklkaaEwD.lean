/-
  THE EVALUATOR, PART D: what the machine's operations come to at related operands: memory, slices, append, copy.
-/
import Derived.Test.YtlkgacbholklkaaEwC
import Derived.MapKept
set_option linter.unusedSimpArgs false
set_option linter.unusedVariables false
namespace Go.E
open Go
variable {P : Program}
theorem addA (b o n : Nat) : (⟨b, o, none⟩ : Addr).add n = ⟨b, o + n, none⟩ := Addr.add_lit b o n

theorem run_typeInfo' {t : TypeId} {i : TypeInfo} (h : P.info? t = some i) (w : World) : (typeInfo t).run P w = .ok i w := by simp [typeInfo, h]
theorem run_sizeOf' {t : TypeId} {n : Nat} (h : sizeI P t = some n) (w : World) : (sizeOf t).run P w = .ok n w := by
  unfold sizeI at h
  cases hi : P.info? t with
  | none => simp [hi] at h
  | some i => simp [hi] at h; simp [sizeOf, run_typeInfo' hi, h]
theorem run_isAgg' {t : TypeId} {d : TypeDesc} (h : P.underlying t = some d) (w : World) : (isAgg t).run P w = .ok (isAggD d) w := by
  simp only [isAgg, Sem.run_bind, run_underlying h, Result.andThen]
  cases d <;> rfl

theorem zeroInfo_spec {t : TypeId} {z : List Value} {n by_ : Nat} (h : zeroInfo P t = some (z, n, by_)) :
    ∃ i v, P.info? t = some i ∧ i.zero = some v ∧ cellsL v = z ∧ i.size = n ∧ i.bytes = by_ ∧ closedVs z = true ∧ z.length = n ∧ 0 < n ∧ 0 < by_ ∧ by_ ≤ 65536 ∧ (∀ v ∈ z, v.oneCell' = true) := by
  unfold zeroInfo at h
  split at h
  case h_2 => cases h
  rename_i i hi
  split at h
  case h_2 => cases h
  rename_i v hv
  split at h
  case isFalse => cases h
  rename_i hc
  cases h
  obtain ⟨h1, h2, h3, h4, h5, h6⟩ := hc
  exact ⟨i, v, hi, hv, rfl, rfl, rfl, h1, h2, h3, h4, h5, by simpa using h6⟩

mutual
theorem closedV_rel (φ : Phi) : ∀ (v : Value), closedV v = true → VR φ v v
  | .bool b, _ => .bool b
  | .int k n, _ => .int k n
  | .float k n, _ => .float k n
  | .string s, _ => .str s
  | .pointer none, _ => .ptrNil
  | .pointer (some _), h => by simp [closedV] at h
  | .slice none 0 0, _ => .slNil
  | .slice none 0 (n + 1), h => by simp [closedV] at h
  | .slice none (n + 1) _, h => by simp [closedV] at h
  | .slice (some _) _ _, h => by simp [closedV] at h
  | .map none, _ => .mapNil
  | .map (some _), h => by simp [closedV] at h
  | .nilFunc, _ => .nilFunc
  | .nilIface, _ => .nilIface
  | .func (.func f) ⟨a⟩ ⟨b⟩, h => by
    simp only [closedV, Bool.and_eq_true] at h
    exact .func f (closedVs_rel φ a h.1) (closedVs_rel φ b h.2)
  | .func (.method _) _ _, h => by simp [closedV] at h
  | .func (.methodOf _ _) _ _, h => by simp [closedV] at h
  | .func (.via _ _ _ _) _ _, h => by simp [closedV] at h
  | .func (.yield _) _ _, h => by simp [closedV] at h
  | .iface t v, h => by simp only [closedV] at h; exact .iface t (closedV_rel φ v h)
  | .agg ⟨l⟩, h => by simp only [closedV] at h; exact .agg (closedVs_rel φ l h)
  | .tuple ⟨l⟩, h => by simp only [closedV] at h; exact .tuple (closedVs_rel φ l h)
  | .complex _ _ _, h => by simp [closedV] at h
  | .chan _, h => by simp [closedV] at h
theorem closedVs_rel (φ : Phi) : ∀ (l : List Value), closedVs l = true → VRs φ l l
  | [], _ => .nil
  | v :: l, h => by
    simp only [closedVs, Bool.and_eq_true] at h
    exact .cons (closedV_rel φ v h.1) (closedVs_rel φ l h.2)
end
def GOk (G : Nat) (φ : Phi) : Prop := ∀ g, g < G → ∃ m, φ g = some m ∧ m.blk = g ∧ m.sh = 0
theorem GOk.mono {G : Nat} {φ ψ : Phi} (h : φ.le ψ) (k : GOk G φ) : GOk G ψ := fun g hg => let ⟨m, a, b, c⟩ := k g hg; ⟨m, h _ _ a, b, c⟩

theorem ev_rel {G : Nat} {φ : Phi} {T : Env} {a : Act} (hg : GOk G φ) (ht : VRs φ T a.tmps.toList) {x : Operand} {n : NOpd} (h : cOpd G x = some n) : VR φ (n.ev T) (a.eval x) := by
  cases x with
  | tmp t =>
    simp only [cOpd, Option.some.injEq] at h; subst h
    have := ht.getD t (undefR φ)
    simpa [NOpd.ev, Act.eval, Array.getD_eq_getD_getElem?, List.getD_eq_getElem?_getD] using this
  | const v =>
    simp only [cOpd] at h
    split at h
    · rename_i hc; cases h; exact closedV_rel φ v hc
    · cases h
  | global g =>
    simp only [cOpd] at h
    split at h
    · rename_i hc; cases h
      obtain ⟨m, h1, h2, h3⟩ := hg g hc
      have := VR.ptr (φ := φ) 0 h1
      simpa [NOpd.ev, Act.eval, h2, h3] using this
    · cases h
  | func f =>
    simp only [cOpd, Option.some.injEq] at h; subst h
    exact .func f .nil .nil

theorem evs_rel {G : Nat} {φ : Phi} {T : Env} {a : Act} (hg : GOk G φ) (ht : VRs φ T a.tmps.toList) : ∀ {xs : List Operand} {ns : List NOpd}, cOpds G xs = some ns → VRs φ (ns.map (·.ev T)) (xs.map a.eval)
  | [], _, h => by simp [cOpds] at h; subst h; exact .nil
  | x :: r, _, h => by
    simp only [cOpds, Option.bind_eq_some_iff, Option.map_eq_some_iff] at h
    obtain ⟨n, h1, ns, h2, rfl⟩ := h
    exact .cons (ev_rel hg ht h1) (evs_rel hg ht h2)

theorem cells_rel {φ : Phi} {v v' : Value} (h : VR φ v v') : VRs φ (cellsL v) (cellsL v') := by
  cases h
  case agg h => exact h
  case junk k re im h hb =>
    have e : cellsL v' = [v'] := by cases v' <;> first | rfl | cases h
    rw [e]; exact .cons (.junk _ _ _ h hb) .nil
  all_goals exact .cons (by constructor <;> assumption) .nil

/-! ### load, store -/
theorem run_loadVar_rel {φ : Phi} {H : AHeap} {w : World} (hs : Sim φ H w) {t : TypeId} {d : TypeDesc} {n : Nat} (hd : P.underlying t = some d) (hn : sizeI P t = some n) {b o : Nat} {m : Emb} (hb : φ b = some m)
    {cs : List Value} (hrow : H.row b o (if isAggD d then n else 1) = some cs) :
    ∃ cs', VRs φ cs cs' ∧ cs'.length = (if isAggD d then n else 1) ∧ (loadVar t ⟨m.blk, m.sh + o, none⟩).run P w = .ok (if isAggD d then .agg cs'.toArray else cs'.getD 0 undef) w := by
  obtain ⟨cs', h1, h2, h3, _, h4⟩ := row_sim hs hb hrow
  refine ⟨cs', h1, h3, ?_⟩
  simp only [loadVar, Sem.run_bind, run_isAgg' hd, Result.andThen]
  by_cases ha : isAggD d = true
  · simp only [ha, if_true] at h3 ⊢
    have := run_loadCells_list (P := P) w ⟨m.blk, m.sh + o, none⟩ cs' (fun j v hv => by rw [addA]; exact h4 j v hv)
    simp only [Sem.run_bind, run_sizeOf' hn, Result.andThen]
    rw [← h3]
    simp [this]
  · simp only [ha, if_false] at h3 ⊢
    obtain ⟨v, hv⟩ : ∃ v, cs'[0]? = some v := ⟨cs'[0]'(by simp at h3; omega), by simp⟩
    have := h4 0 v hv
    simp only [Nat.add_zero] at this
    simp [this, hv]

theorem run_storeVar_rel {φ : Phi} {H H' : AHeap} {w : World} (hs : Sim φ H w) {t : TypeId} {n : Nat} (hn : sizeI P t = some n) {b o : Nat} {m : Emb} (hb : φ b = some m)
    {v v' : Value} (hv : VR φ v v') (hl : (cellsL v).length = n) (hrow : H.putRow b o (cellsL v) = some H') :
    ∃ w', (storeVar t ⟨m.blk, m.sh + o, none⟩ v').run P w = .ok () w' ∧ Stp φ H w φ H' w' := by
  obtain ⟨w', h1, h2⟩ := putRow_sim (P := P) hs hb (cells_rel hv) hrow
  refine ⟨w', ?_, h2⟩
  have hl' : v'.cells.size = n := by have := (cells_rel hv).length; rw [hl] at this; simpa [cellsL] using this.symm
  simp only [storeVar, Sem.run_bind, run_sizeOf' hn, Result.andThen, hl', ne_eq, not_true_eq_false, if_false]
  simpa [cellsL] using h1

/-! ### struct and slice literals -/
theorem foldl_put : ∀ (vs : List Value) (off k : Nat) (cs : Array Value), off + k + vs.length ≤ cs.size →
    ((vs.zipIdx k).foldl (fun (cs : Array Value) (x : Value × Nat) => cs.setIfInBounds (off + x.2) x.1) cs).toList = cs.toList.take (off + k) ++ vs ++ cs.toList.drop (off + k + vs.length)
  | [], off, k, cs, h => by simp
  | v :: vs, off, k, cs, h => by
    simp only [List.zipIdx_cons, List.foldl_cons, List.length_cons] at h ⊢
    rw [foldl_put vs off (k + 1) _ (by simp; omega)]
    simp only [Array.toList_setIfInBounds]
    apply List.ext_getElem?
    intro j
    rcases Nat.lt_trichotomy j (off + k) with hj | hj | hj
    · simp [List.getElem?_append, List.getElem?_set, List.getElem?_take, List.length_take, List.getElem?_cons]
      grind
    · subst hj
      simp [List.getElem?_append, List.getElem?_set, List.getElem?_take, List.length_take, List.getElem?_cons]
      grind
    · simp [List.getElem?_append, List.getElem?_set, List.getElem?_take, List.length_take, List.getElem?_cons, List.getElem?_drop]
      grind

theorem fill_rel {φ : Phi} {place : Nat → Option (Nat × Nat)} : ∀ (ps : List (Nat × Nat × Value)) (parts : List (Nat × Value)) (cs cs' out : List Value),
    ps.length = parts.length → (∀ (k : Nat) off size v, ps[k]? = some (off, size, v) → ∃ i v', parts[k]? = some (i, v') ∧ place i = some (off, size) ∧ VR φ v v') →
    VRs φ cs cs' → fillN cs ps = some out → ∃ out', Instr.fill place cs'.toArray parts = some out'.toArray ∧ VRs φ out out'
  | [], [], cs, cs', out, _, _, hr, h => by simp [fillN] at h; subst h; exact ⟨cs', rfl, hr⟩
  | [], _ :: _, _, _, _, hl, _, _, _ => by simp at hl
  | _ :: _, [], _, _, _, hl, _, _, _ => by simp at hl
  | (off, size, v) :: ps, (i, v') :: parts, cs, cs', out, hl, hp, hr, h => by
    obtain ⟨i0, v0, e0, hpl, hv⟩ := hp 0 off size v (by simp)
    simp at e0
    obtain ⟨rfl, rfl⟩ := e0
    simp only [fillN] at h
    split at h
    case isFalse => cases h
    rename_i hc
    obtain ⟨h1, h2, h3⟩ := hc
    have hcl := cells_rel hv
    have hl1 := hcl.length
    have hl2 := hr.length
    obtain ⟨out', h4, h5⟩ := fill_rel (φ := φ) (place := place) ps parts _ (cs'.take off ++ cellsL v' ++ cs'.drop (off + size)) out (by simpa using hl)
      (fun k off size v hk => by simpa using hp (k + 1) off size v (by simpa using hk)) ((hr.take off).append hcl |>.append (hr.drop (off + size))) h
    refine ⟨out', ?_, h5⟩
    simp only [Instr.fill, hpl]
    have hsz : v'.cells.size = size := by rw [← h1, hl1]; simp [cellsL]
    rw [if_neg (by simp [hsz]; omega)]
    rw [← h4]
    congr 1
    apply Array.ext'
    have hf := foldl_put (cellsL v') off 0 cs'.toArray (by simp; omega)
    simp only [Nat.add_zero] at hf
    have e2 : (cellsL v').length = size := by omega
    rw [e2] at hf
    rw [← hf]
    rw [← Array.foldl_toList]
    simp [cellsL]

theorem fillN_one : ∀ (ps : List (Nat × Nat × Value)) (cs out : List Value), fillN cs ps = some out → (∀ v ∈ cs, v.oneCell' = true) → ∀ v ∈ out, v.oneCell' = true
  | [], cs, out, h, g => by simp [fillN] at h; subst h; exact g
  | (off, size, v) :: ps, cs, out, h, g => by
    simp only [fillN] at h
    split at h
    case isFalse => cases h
    rename_i hc
    obtain ⟨h1, h2, h3⟩ := hc
    refine fillN_one ps _ out h ?_
    intro u hu
    simp only [List.mem_append] at hu
    rcases hu with (hu | hu) | hu
    · exact g u (List.mem_of_mem_take hu)
    · exact by simpa using (List.all_eq_true.1 h3) u hu
    · exact g u (List.mem_of_mem_drop hu)

theorem cParts_spec {G : Nat} {φ : Phi} {T : Env} {a : Act} (hg : GOk G φ) (ht : VRs φ T a.tmps.toList) {place : Nat → Option (Nat × Nat)} : ∀ {parts : List (Nat × Operand)} {ps : List (Nat × Nat × NOpd)}, cParts G place parts = some ps →
    (ps.map fun (o, s, x) => (o, s, x.ev T)).length = (parts.map fun (i, x) => (i, a.eval x)).length ∧
    ∀ (k : Nat) off size v, (ps.map fun (o, s, x) => (o, s, x.ev T))[k]? = some (off, size, v) → ∃ i v', (parts.map fun (i, x) => (i, a.eval x))[k]? = some (i, v') ∧ place i = some (off, size) ∧ VR φ v v'
  | [], _, h => by simp [cParts] at h; subst h; simp
  | (i, x) :: r, _, h => by
    simp only [cParts] at h
    split at h
    case h_2 => cases h
    rename_i off size hpl
    simp only [Option.bind_eq_some_iff, Option.map_eq_some_iff] at h
    obtain ⟨n, h1, ns, h2, rfl⟩ := h
    obtain ⟨h3, h4⟩ := cParts_spec hg ht h2
    refine ⟨by simpa using h3, ?_⟩
    intro k off' size' v hk
    cases k with
    | zero => simp at hk; obtain ⟨rfl, rfl, rfl⟩ := hk; exact ⟨i, a.eval x, by simp, hpl, ev_rel hg ht h1⟩
    | succ k =>
      have := h4 k off' size' v (by simpa using hk)
      simpa using this

theorem fieldPlaces_spec : ∀ {fs : List Field} {pl : List (Nat × Nat)}, fieldPlaces P fs = some pl → ∀ w, (fs.mapM fun f => do pure (f.offset, ← sizeOf f.type) : Sem (List (Nat × Nat))).run P w = .ok pl w
  | [], _, h, w => by simp [fieldPlaces] at h; subst h; rfl
  | f :: r, _, h, w => by
    simp only [fieldPlaces, Option.bind_eq_some_iff, Option.map_eq_some_iff] at h
    obtain ⟨n, h1, ns, h2, rfl⟩ := h
    have := fieldPlaces_spec h2 w
    simp only [List.mapM_cons, Sem.run_bind, run_sizeOf' h1, Result.andThen_ok, Sem.run_pure, this]

/-! ### slices -/
theorem bnd_spec {x x' : Option Value} {φ : Phi} (hx : (x = none ∧ x' = none) ∨ (∃ v v', x = some v ∧ x' = some v' ∧ VR φ v v')) {dflt top k : Nat} (h : bnd x dflt top = some k) :
    k ≤ top ∧ ((x' = none ∧ k = dflt) ∨ (∃ kd i, x' = some (.int kd i) ∧ i = (k : Int))) := by
  rcases hx with ⟨rfl, rfl⟩ | ⟨v, v', rfl, rfl, hv⟩
  · simp [bnd] at h; obtain ⟨h1, h2⟩ := h; exact ⟨by omega, .inl ⟨rfl, by omega⟩⟩
  · cases hv <;> simp [bnd] at h
    rename_i kd i
    obtain ⟨⟨h1, h2⟩, h3⟩ := h
    exact ⟨by omega, .inr ⟨kd, i, rfl, by omega⟩⟩

theorem run_sliceBound {kd : IntKind} {i : Int} {k y : Nat} (hi : i = (k : Int)) (hk : k ≤ y) (code : BoundsCode) (w : World) : (Instr.sliceBound (.int kd i) y code).run P w = .ok k w := by
  subst hi
  have : (0 : Int) ≤ k ∧ (k : Int) ≤ y := by omega
  simp [Instr.sliceBound, asIntOf, hk]

def optR (φ : Phi) (x x' : Option Value) : Prop := (x = none ∧ x' = none) ∨ (∃ v v', x = some v ∧ x' = some v' ∧ VR φ v v')

theorem run_sliceBounds {φ : Phi} {lo lo' hi hi' mx mx' : Option Value} (h1 : optR φ lo lo') (h2 : optR φ hi hi') (h3 : optR φ mx mx') {l c c' i h m : Nat} (isS : Bool)
    (hb : sliceBnds l c lo hi mx = some (i, h, m)) (hcc : c ≤ c') (hmx : mx' = none → hi' = none → True) (hne : ¬ (mx'.isSome = true ∧ hi' = none)) (w : World) :
    i ≤ h ∧ h ≤ m ∧ m ≤ c ∧ (mx' = none → m = c) ∧ (Instr.sliceBounds isS l c' lo' hi' mx').run P w = .ok (i, h, if mx' = none then c' else m) w := by
  unfold sliceBnds at hb
  simp only [Option.bind_eq_some_iff, Option.some.injEq, Prod.mk.injEq] at hb
  obtain ⟨m0, hm, h0, hh, i0, hi0, rfl, rfl, rfl⟩ := hb
  obtain ⟨hm1, hm2⟩ := bnd_spec h3 hm
  obtain ⟨hh1, hh2⟩ := bnd_spec h2 hh
  obtain ⟨hi1, hi2⟩ := bnd_spec h1 hi0
  refine ⟨hi1, hh1, hm1, ?_, ?_⟩
  · intro e; rcases hm2 with ⟨_, e2⟩ | ⟨kd, x, e2, _⟩
    · exact e2
    · rw [e] at e2; cases e2
  · rcases hm2 with ⟨rfl, e2⟩ | ⟨kd, x, rfl, e2⟩
    · rcases hh2 with ⟨rfl, e3⟩ | ⟨kh, y, rfl, e3⟩
      · rcases hi2 with ⟨rfl, e4⟩ | ⟨kl, z, rfl, e4⟩
        · simp [Instr.sliceBounds, e3, e4]
        · simp [Instr.sliceBounds, e3, run_sliceBound e4 (show i0 ≤ l by omega)]
      · rcases hi2 with ⟨rfl, e4⟩ | ⟨kl, z, rfl, e4⟩
        · simp [Instr.sliceBounds, e4, run_sliceBound e3 (show h0 ≤ c' by omega)]
        · simp [Instr.sliceBounds, run_sliceBound e3 (show h0 ≤ c' by omega), run_sliceBound e4 hi1]
    · rcases hh2 with ⟨rfl, e3⟩ | ⟨kh, y, rfl, e3⟩
      · exact absurd ⟨rfl, rfl⟩ hne
      · rcases hi2 with ⟨rfl, e4⟩ | ⟨kl, z, rfl, e4⟩
        · simp [Instr.sliceBounds, e4, run_sliceBound e2 (show m0 ≤ c' by omega), run_sliceBound e3 hh1]
        · simp [Instr.sliceBounds, run_sliceBound e2 (show m0 ≤ c' by omega), run_sliceBound e3 hh1, run_sliceBound e4 hi1]

end Go.E
