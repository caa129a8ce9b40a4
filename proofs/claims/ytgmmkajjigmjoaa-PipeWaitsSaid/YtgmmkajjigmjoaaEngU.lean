/-
  THE EVALUATOR, PART U: the heap that a run begins with, out of the package-level variables that a row lists.
-/
import Derived.Test.YtgmmkajjigmjoaaEngT
import Derived.Deep.DeepHandedRow
set_option linter.unusedSimpArgs false
set_option linter.unusedVariables false
namespace Go.E
open Go Go.MapKept Go.ChangeShapes Go.WideShapes Go.RowKit

variable {P : Program}

/-! ### the first heap -/
def startH (gs : List AObj) : AHeap := gs.foldl AHeap.add AHeap.empty

theorem get_fold : ∀ (gs : List AObj) (H : AHeap) (b : Nat), (gs.foldl AHeap.add H).get b = (if H.next ≤ b ∧ b < H.next + gs.length then gs.getD (b - H.next) .dead else H.get b) ∧ (gs.foldl AHeap.add H).next = H.next + gs.length
  | [], H, b => by
    refine ⟨?_, by simp⟩
    simp only [List.foldl_nil, List.length_nil]
    rw [if_neg (show ¬ (H.next ≤ b ∧ b < H.next + 0) from fun h => by omega)]
  | o :: gs, H, b => by
    obtain ⟨h1, h2⟩ := get_fold gs (H.add o) b
    refine ⟨?_, by rw [List.foldl_cons, h2]; simp; omega⟩
    rw [List.foldl_cons, h1]
    simp only [AHeap.next_add, AHeap.get_add, List.length_cons]
    by_cases e : b = H.next
    · subst e
      rw [if_neg (by omega), if_pos rfl, if_pos (by omega)]; simp
    · by_cases h : H.next + 1 ≤ b ∧ b < H.next + 1 + gs.length
      · rw [if_pos h, if_pos (by omega)]
        rw [show b - H.next = (b - (H.next + 1)) + 1 by omega]
        simp
      · rw [if_neg h, if_neg e, if_neg (by omega)]

theorem get_startH (gs : List AObj) (b : Nat) : (startH gs).get b = gs.getD b .dead := by
  unfold startH
  rw [(get_fold gs AHeap.empty b).1]
  have e0 : AHeap.empty.next = 0 := rfl
  rw [e0]
  split
  · rfl
  · rename_i h
    have : gs.length ≤ b := by omega
    have e1 : gs.getD b AObj.dead = .dead := by simp [List.getD_eq_getElem?_getD, this]
    rw [e1]; rfl

theorem next_startH (gs : List AObj) : (startH gs).next = gs.length := by
  unfold startH
  rw [(get_fold gs AHeap.empty 0).2]
  simp [AHeap.empty]

theorem start_sim {gs : List AObj} {ms : List Emb} {w : World} (hl : ms.length = gs.length) (hr : ∀ o ∈ gs, o.writable = false) (h : ∀ (b : Nat) o m, gs[b]? = some o → ms[b]? = some m → ObjR (fun b => ms[b]?) m w o) :
    Sim (fun b => ms[b]?) (startH gs) w ∧ ∀ k, ¬ Wr (fun b => ms[b]?) (startH gs) k := by
  have hget : ∀ b m, ms[b]? = some m → ∃ o, gs[b]? = some o ∧ (startH gs).get b = o := by
    intro b m hb
    have hlt : b < gs.length := by rw [← hl]; exact (List.getElem?_eq_some_iff.1 hb).1
    refine ⟨gs[b], by simp [hlt], ?_⟩
    rw [get_startH]; simp [List.getD_eq_getElem?_getD, hlt]
  have hw : ∀ b m, ms[b]? = some m → ((startH gs).get b).writable = false := by
    intro b m hb
    obtain ⟨o, h1, h2⟩ := hget b m hb
    rw [h2]; exact hr o (List.mem_of_getElem? h1)
  refine ⟨⟨fun b m hb => ?_, fun b m hb => ?_, fun b c m k hb hc _ _ hwr => ?_⟩, fun k ⟨b, m, hb, _, hwr⟩ => ?_⟩
  · rw [next_startH, ← hl]; exact (List.getElem?_eq_some_iff.1 hb).1
  · obtain ⟨o, h1, h2⟩ := hget b m hb
    rw [h2]; exact h b o m h1 hb
  · rw [hw b m hb] at hwr; cases hwr
  · rw [hw b m hb] at hwr; cases hwr

/-- A RUN OF THE EVALUATOR WHATEVER THE ARGUMENTS ARE, from a heap of tables. -/
theorem calls_of_run_at (hm : P.follows .mixedOrders = true) {n f G : Nat} {φ : Phi} {H : AHeap} {ts : List TypeId} {ss : List (Bool × List Bool)} (hss : shapesT P ts = some ss)
    (hrun : ∀ bss, Fills ss bss → ((callN (cProg P G) n f (fillArgs ss bss) H).map (·.1)) = some (.bool true))
    {W : World} (hg : GOk G φ) (hs : Sim φ H W) (hw : ∀ k, ¬ Wr φ H k) {r : Reach} {base : Nat} {args : Array Value} (hlen : args.toList.length = ts.length) (hval : ∀ (j : Nat) t v, ts[j]? = some t → args.toList[j]? = some v → Value.okWide P W r base t v) :
    Calls P f args W fun e W' => e = .returned (.bool true) ∧ Below W.heap.size W W' := by
  obtain ⟨bss, h1, h2⟩ := args_rel (φ := φ) hss hlen hval
  have h3 := hrun bss h1
  simp only [Option.map_eq_some_iff] at h3
  obtain ⟨⟨v, H'⟩, h3, rfl⟩ := h3
  have := (call_sound hm n f _ _ _ _ h3 φ _ W hg h2 hs).2
  refine this.mono fun e W' ⟨φ', v', he, hv, hs⟩ => ?_
  cases hv
  exact ⟨he, hs.below hw⟩

/-! ### tables out of readings -/
section
variable {X : Type} {enc : TypeId × Value → X} (hdec : X → Option Value)

def tabOf (P : Program) (n : Nat) (kd : IntKind) (e : TypeId) : List (Lit × DataW X) → Option (List MapEntry)
  | [] => some []
  | (.int k z, d) :: r => if k = kd then match flatV hdec P n e d with
    | some [v] => if closedV v = true ∧ v.oneCell' = true then (tabOf P n kd e r).map ({ key := .int k z, val := v, born := 0 } :: ·) else none
    | _ => none else none
  | _ => none

variable {hdec}

theorem tabOf_spec {n : Nat} {kd : IntKind} {e : TypeId} : ∀ {L : List (Lit × DataW X)} {T : List MapEntry}, tabOf hdec P n kd e L = some T → T.length = L.length ∧
    (∀ m ∈ T, ∃ z d, m.key = .int kd z ∧ (Lit.int kd z, d) ∈ L ∧ flatV hdec P n e d = some [m.val] ∧ closedV m.val = true ∧ m.val.oneCell' = true) ∧ (∀ y ∈ L, ∃ z m, y.1 = .int kd z ∧ m ∈ T ∧ m.key = .int kd z)
  | [], T, h => by simp [tabOf] at h; subst h; simp
  | (l, d) :: r, T, h => by
    cases l <;> simp only [tabOf] at h <;> try (cases h; done)
    rename_i k z
    split at h
    case isFalse => cases h
    rename_i hk
    subst hk
    split at h
    case h_2 => cases h
    rename_i v hv
    split at h
    case isFalse => cases h
    rename_i hc
    simp only [Option.map_eq_some_iff] at h
    obtain ⟨T', h1, rfl⟩ := h
    obtain ⟨g1, g2, g3⟩ := tabOf_spec h1
    refine ⟨by simp [g1], ?_, ?_⟩
    · intro m hm
      rcases List.mem_cons.1 hm with rfl | hm
      · exact ⟨z, d, rfl, by simp, hv, hc.1, hc.2⟩
      · obtain ⟨z', d', a, b, c⟩ := g2 m hm
        exact ⟨z', d', a, List.mem_cons_of_mem _ b, c⟩
    · intro y hy
      rcases List.mem_cons.1 hy with rfl | hy
      · exact ⟨z, { key := .int k z, val := v, born := 0 }, rfl, by simp, rfl⟩
      · obtain ⟨z', m, a, b, c⟩ := g3 y hy
        exact ⟨z', m, a, List.mem_cons_of_mem _ b, c⟩

theorem keyOf_int {k : TypeId} {kd : IntKind} (hk : P.underlying k = some (.int kd)) {v : Value} {l : Lit} (h : keyOf P k v = some l) : ∃ z, v = .int kd z ∧ l = .int kd z := by
  unfold keyOf at h
  rw [hk] at h
  unfold mapKey at h
  rw [hk] at h
  cases v <;> simp at h
  obtain ⟨⟨rfl, _⟩, h⟩ := h
  exact ⟨_, rfl, h.symm⟩

theorem one_of_cells {e : TypeId} {x v : Value} (he : ∀ fs, P.underlying e ≠ some (.struct fs)) (he2 : ∀ n u, P.underlying e ≠ some (.array n u)) (hf : x.formed P e = true) (h : x.cells.toList = [v]) : x = v := by
  cases x
  case agg cs =>
    have : Value.formed P e (.agg cs) = false := by
      show (match P.underlying e with
        | some (.struct _) | some (.array _ _) => cs.size == P.cellsOf e
        | _ => false) = false
      split
      · rename_i h1; exact absurd h1 (he _)
      · rename_i h1; exact absurd h1 (he2 _ _)
      · rfl
    rw [this] at hf; cases hf
  all_goals (simp [Value.cells] at h; exact h)

theorem table_of (hdecS : ∀ t f a b v, hdec (enc (t, .func f a b)) = some v → v = .func f a b) {w : World} {sp : Nat → Bool} {held : Bool} {t k e : TypeId} {kd : IntKind} (ht : P.underlying t = some (.map k e)) (hk : P.underlying k = some (.int kd))
    (he : ∀ fs, P.underlying e ≠ some (.struct fs)) (he2 : ∀ n u, P.underlying e ≠ some (.array n u)) {fuel : Nat} {cs : List Value} {L : List (Lit × DataW X)} {p : List MemPlace} (h : DataW.trod enc P w 0 sp held fuel t cs = some (.map L, p))
    {n : Nat} {T : List MapEntry} (hT : tabOf hdec P n kd e L = some T) (hnd : (T.map (·.key)).Nodup) (hndL : (L.map (·.1)).Nodup) : ∃ b, cs = [.map (some b)] ∧ ∀ φ m, m.blk = b → ObjR φ m w (.table T) := by
  obtain ⟨b, es, clock, m0, hcs, hb, hsz, h1, h2, hperm⟩ := open_tab ht h
  obtain ⟨g1, g2, g3⟩ := tabOf_spec hT
  refine ⟨b, hcs, fun φ m hmb => ⟨es, clock, hmb ▸ hb, ?_⟩⟩
  have hmap : (es.toList.map (·.key)).Nodup := by
    have hn : (es.toList.map fun x => keyOf P k x.key).Nodup := by
      refine hperm.nodup_iff.2 ?_
      have := List.Pairwise.map (S := (· ≠ ·)) some (fun a b h => by simpa using h) hndL
      simpa [List.Nodup, Function.comp_def] using this
    have e1 : (es.toList.map fun x => keyOf P k x.key) = (es.toList.map (·.key)).map (keyOf P k) := by simp [Function.comp_def]
    rw [e1] at hn
    exact List.Pairwise.of_map (S := (· ≠ ·)) (keyOf P k) (fun a b h e => h (by rw [e])) hn
  refine tab_of (d := .int kd) (by simp [hsz, g1]) ?_ hnd hmap ?_ ?_
  · intro x hx
    obtain ⟨z, _, hkey, _⟩ := g2 x hx
    rw [hkey]; simp [keyOk]
  · intro x hx
    obtain ⟨z, d, hkey, hmem, hfl, hcl, _⟩ := g2 x hx
    obtain ⟨x', hx', k1, k2, q, k3⟩ := h2 _ hmem
    obtain ⟨z', hz1, hz2⟩ := keyOf_int hk k1
    cases hz2
    refine ⟨x', hx', hz1.trans hkey.symm, ?_⟩
    have := flatV_sound hdecS n _ _ _ _ _ _ k3 hfl
    rw [one_of_cells he he2 k2 this]
    exact closedV_rel φ _ hcl
  · intro x' hx'
    obtain ⟨y, hy, k1, _⟩ := h1 x' hx'
    obtain ⟨z, hz1, hz2⟩ := keyOf_int hk k1
    obtain ⟨z', m', a, hm', c⟩ := g3 y hy
    rw [hz2] at a
    cases a
    exact ⟨m', hm', c.trans hz1.symm⟩
end

theorem unitDec {enc : TypeId × Value → Unit} : ∀ t f a b v, (fun _ => none : Unit → Option Value) (enc (t, .func f a b)) = some v → v = .func f a b := fun _ _ _ _ _ h => by cases h

/-- functions told by name -/
def nameDec (tab : List (List UInt8 × Nat)) (x : List UInt8) : Option Value := (tab.lookup x).map fun f => .func (.func f) #[] #[]

def nameDecOk (P : Program) (tab : List (List UInt8 × Nat)) : Bool :=
  tab.all fun y => !y.1.isEmpty && (((List.range P.funcs.size).filter fun f => (P.funcs[f]?).any (·.name.toUTF8.data.toList == y.1)) == [y.2])

theorem nameDecS {tab : List (List UInt8 × Nat)} (h : nameDecOk P tab = true) : ∀ t f a b v, nameDec tab (funcToken P (t, .func f a b)) = some v → v = .func f a b := by
  intro t f a b v hv
  simp only [nameDec, Option.map_eq_some_iff] at hv
  obtain ⟨f0, hl, rfl⟩ := hv
  have hmem : (funcToken P (t, .func f a b), f0) ∈ tab := by
    generalize funcToken P (t, .func f a b) = x at hl
    clear h
    induction tab with
    | nil => cases hl
    | cons y r ih =>
      obtain ⟨y1, y2⟩ := y
      simp only [List.lookup_cons] at hl
      split at hl
      · rename_i e
        cases hl
        have : x = y1 := by simpa using e
        rw [this]; simp
      · exact List.mem_cons_of_mem _ (ih hl)
  have h1 := List.all_eq_true.1 h _ hmem
  simp only [Bool.and_eq_true, Bool.not_eq_true', beq_iff_eq] at h1
  obtain ⟨hne, hone⟩ := h1
  cases hx : funcToken P (t, .func f a b) with
  | nil => rw [hx] at hne; cases hne
  | cons c r =>
    obtain ⟨f1, fn, hf1, hfn, _, hname⟩ := funcToken_tells hx
    rw [hx] at hone
    have hm : f1 ∈ (List.range P.funcs.size).filter fun f => (P.funcs[f]?).any (·.name.toUTF8.data.toList == c :: r) :=
      List.mem_filter.2 ⟨List.mem_range.2 (Array.getElem?_eq_some_iff.1 hfn).1, by rw [hfn]; simpa using hname⟩
    rw [hone] at hm
    rw [List.mem_singleton.1 hm] at hf1
    exact hf1.symm

/-- a variable that holds one map: what its block is -/
theorem ObjR.ofMap {φ : Phi} {w : World} {n : String} {g b c : Nat} {cs : Array Value} {m mb : Emb} (hg : P.globalNamed n = some g) (hv : w.var? P n = some cs) (hcs : cs.toList = [.map (some b)]) (hc : φ c = some mb) (hmb : mb.blk = b) (hm : m = ⟨g, 0, 1, 1, 0⟩) :
    ObjR φ m w (.cells [.map (some c)] 0 true) := by
  subst hm
  unfold World.var? at hv
  rw [hg] at hv
  simp only [Option.bind_some] at hv
  split at hv
  case h_2 => cases hv
  rename_i C el fr hC
  cases hv
  refine ⟨rfl, Nat.le_refl _, rfl, by simp [Value.oneCell'], cs, el, fr, hC, ?_, ?_, fun h => by cases h⟩
  · have := congrArg List.length hcs
    simp at this; simp [this]
  · intro i v hi
    have e : cs[0]? = some (.map (some b)) := by rw [← Array.getElem?_toList, hcs]; rfl
    cases i with
    | zero =>
      simp at hi
      subst hi
      exact ⟨_, by simpa using e, hmb ▸ VR.map hc⟩
    | succ i => simp at hi

/-- a variable without pointers -/
theorem ObjR.ofFlat {φ : Phi} {w : World} {n : String} {g : Nat} {cs : Array Value} {vs : List Value} {m : Emb} (hg : P.globalNamed n = some g) (hv : w.var? P n = some cs) (hcs : cs.toList = vs) (hcl : vs.all closedV = true) (hone : vs.all (·.oneCell') = true) (hm : m = ⟨g, 0, vs.length, vs.length, 0⟩) :
    ObjR φ m w (.cells vs 0 true) := by
  subst hm
  unfold World.var? at hv
  rw [hg] at hv
  simp only [Option.bind_some] at hv
  split at hv
  case h_2 => cases hv
  rename_i C el fr hC
  cases hv
  subst hcs
  refine ⟨rfl, Nat.le_refl _, rfl, List.all_eq_true.1 hone, cs, el, fr, hC, by simp, ?_, fun h => by cases h⟩
  intro i v hi
  have := List.all_eq_true.1 hcl v (List.mem_of_getElem? hi)
  exact ⟨v, by simpa using hi, closedV_rel φ v this⟩


/-- a type of one cell, to be asked by the kernel -/
def oneT (P : Program) (e : TypeId) : Bool := match P.underlying e with | some (.struct _) | some (.array _ _) => false | _ => true
theorem oneT_struct {e : TypeId} (h : oneT P e = true) : ∀ fs, P.underlying e ≠ some (.struct fs) := fun fs k => by simp [oneT, k] at h
theorem oneT_array {e : TypeId} (h : oneT P e = true) : ∀ n u, P.underlying e ≠ some (.array n u) := fun n u k => by simp [oneT, k] at h

end Go.E
