/-
  THE EVALUATOR, PART T: package-level tables: from what a row lists to the heap that a run begins with.
-/
import Derived.Test.YtgmmkajjigmjoaaEngS
import Derived.LaidMore
import Derived.LaidHandle
import Derived.ChangeAnyMap
import Derived.Lib.LaidTab
set_option linter.unusedSimpArgs false
set_option linter.unusedVariables false
namespace Go.E
open Go Go.MapKept Go.ChangeShapes Go.WideShapes Go.RowKit

variable {P : Program}

/-! ### look-ups among distinct keys -/
theorem sameNow_ok {d : TypeDesc} {k k' : Value} (h : keyOk d k = true) (h' : keyOk d k' = true) : (Instr.sameNow d k k' = some true ∧ k' = k) ∨ (Instr.sameNow d k k' = some false ∧ k' ≠ k) := by
  cases d <;> cases k <;> simp [keyOk] at h <;> cases k' <;> simp [keyOk] at h'
  · rename_i a b
    by_cases e : a = b
    · subst e; left; simp [Instr.sameNow]
    · right; refine ⟨by simp [Instr.sameNow, e], fun e' => e ?_⟩; cases e'; rfl
  · rename_i k1 a k2 b
    subst h; subst h'
    by_cases e : a = b
    · subst e; left; simp [Instr.sameNow]
    · right; refine ⟨by simp [Instr.sameNow, e], fun e' => e ?_⟩; cases e'; rfl
  · rename_i a b
    by_cases e : a = b
    · subst e; left; exact ⟨by simp only [Instr.sameNow]; exact congrArg some ((bytes_beq _ _).2 rfl), rfl⟩
    · right
      refine ⟨?_, fun e' => e ?_⟩
      · simp only [Instr.sameNow]
        refine congrArg some (Bool.eq_false_iff.2 fun hb => e ((bytes_beq _ _).1 hb))
      · cases e'; rfl

theorem findNow_none {d : TypeDesc} {k : Value} (hk : keyOk d k = true) : ∀ (L : List MapEntry) (i : Nat), (∀ e ∈ L, keyOk d e.key = true) → (∀ e ∈ L, e.key ≠ k) → Instr.findNow d k L i = some none
  | [], _, _, _ => rfl
  | e :: L, i, h1, h2 => by
    rcases sameNow_ok hk (h1 e (by simp)) with ⟨_, h⟩ | ⟨h, _⟩
    · exact absurd h (h2 e (by simp))
    · simp only [Instr.findNow, h]
      exact findNow_none hk L (i + 1) (fun x hx => h1 x (List.mem_cons_of_mem _ hx)) (fun x hx => h2 x (List.mem_cons_of_mem _ hx))

theorem findNow_hit {d : TypeDesc} {k : Value} (hk : keyOk d k = true) : ∀ (L : List MapEntry) (i : Nat), (∀ e ∈ L, keyOk d e.key = true) → (L.map (·.key)).Nodup → ∀ e ∈ L, e.key = k → ∃ j, Instr.findNow d k L i = some (some (j, e.val))
  | [], _, _, _, e, he, _ => by cases he
  | x :: L, i, h1, hn, e, he, hek => by
    simp only [List.map_cons, List.nodup_cons, List.mem_map, not_exists, not_and] at hn
    rcases sameNow_ok hk (h1 x (by simp)) with ⟨h, hx⟩ | ⟨h, hx⟩
    · simp only [Instr.findNow, h]
      rcases List.mem_cons.1 he with rfl | he'
      · exact ⟨i, rfl⟩
      · exact absurd (hek.trans hx.symm) (hn.1 e he')
    · simp only [Instr.findNow, h]
      rcases List.mem_cons.1 he with rfl | he'
      · exact absurd hek hx
      · exact findNow_hit hk L (i + 1) (fun y hy => h1 y (List.mem_cons_of_mem _ hy)) hn.2 e he' hek

theorem findNow_empty_of_kind {d : TypeDesc} {k : Value} (hk : keyOk d k = true) : ∀ (L : List MapEntry) (i : Nat) {r}, Instr.findNow d k L i = some r → r = none → ∀ e ∈ L, keyOk d e.key = true ∧ e.key ≠ k
  | [], _, _, _, _, e, he => by cases he
  | x :: L, i, r, h, hr, e, he => by
    subst hr
    simp only [Instr.findNow] at h
    cases hs : Instr.sameNow d k x.key with
    | none => rw [hs] at h; cases h
    | some b =>
      rw [hs] at h
      have hx : keyOk d x.key = true := by
        revert hs
        cases d <;> cases k <;> simp [keyOk] at hk <;> cases hxk : x.key <;> simp [Instr.sameNow, keyOk]
        subst hk
        intro a b; exact a.symm
      cases b with
      | true => cases h
      | false =>
        rcases List.mem_cons.1 he with rfl | he'
        · refine ⟨hx, fun e => ?_⟩
          rcases sameNow_ok hk hx with ⟨h1, _⟩ | ⟨_, h1⟩
          · rw [hs] at h1; cases h1
          · exact h1 e
        · exact findNow_empty_of_kind hk L (i + 1) h rfl e he'

/-- two lists of entries with the same distinct keys, of one kind, are found alike -/
theorem tab_of {φ : Phi} {d : TypeDesc} {es es' : List MapEntry} (hlen : es'.length = es.length) (hk : ∀ e ∈ es, keyOk d e.key = true) (hnd : (es.map (·.key)).Nodup) (hnd' : (es'.map (·.key)).Nodup)
    (h1 : ∀ e ∈ es, ∃ e' ∈ es', e'.key = e.key ∧ VR φ e.val e'.val) (h2 : ∀ e' ∈ es', ∃ e ∈ es, e.key = e'.key) : TabR φ es es' := by
  have hk' : ∀ e' ∈ es', keyOk d e'.key = true := fun e' he' => by
    obtain ⟨e, he, hee⟩ := h2 e' he'
    rw [← hee]; exact hk e he
  refine ⟨hlen, fun d2 k hkk => ⟨fun hnone => ?_, fun j v hsome => ?_⟩⟩
  · have := findNow_empty_of_kind hkk es 0 hnone rfl
    refine findNow_none hkk es' 0 (fun e' he' => ?_) (fun e' he' => ?_)
    · obtain ⟨e, he, hee⟩ := h2 e' he'
      rw [← hee]; exact (this e he).1
    · obtain ⟨e, he, hee⟩ := h2 e' he'
      rw [← hee]; exact (this e he).2
  · obtain ⟨n, e, _, he, hs⟩ := findNow_at 0 j v hsome
    have hme := List.mem_of_getElem? he
    have hd2 : keyOk d2 e.key = true ∧ e.key = k := by
      revert hs
      cases d2 <;> cases k <;> simp [keyOk] at hkk <;> cases hxk : e.key <;> simp [Instr.sameNow, keyOk]
      · intro h; exact h.symm
      · subst hkk; rintro rfl rfl; exact ⟨rfl, rfl, rfl⟩
      · rw [bytes_beq]; intro h; simpa using h.symm
    have hd : d2 = d := by
      have a := hd2.1
      have b := hk e hme
      revert a b
      cases e.key <;> cases d2 <;> simp [keyOk] <;> cases d <;> simp [keyOk]
      rintro rfl rfl; rfl
    subst hd
    obtain ⟨j0, hj0⟩ := findNow_hit hkk es 0 hk hnd e hme hd2.2
    rw [hsome] at hj0
    cases hj0
    obtain ⟨e', he', hke, hv⟩ := h1 e hme
    obtain ⟨j', hj'⟩ := findNow_hit hkk es' 0 hk' hnd' e' he' (hke.trans hd2.2)
    exact ⟨j', e'.val, hj', hv⟩


/-! ### what a reading tells of the cells -/
section
variable {X : Type} {enc : TypeId × Value → X} (hdec : X → Option Value)

mutual
/-- the cells of a value without pointers, off its reading -/
def flatV (P : Program) : Nat → TypeId → DataW X → Option (List Value)
  | 0, _, _ => none
  | n + 1, t, d =>
    match P.underlying t, d with
    | some .bool, .lit (.bool b) => some [.bool b]
    | some (.int k), .lit (.int k' m) => if k = k' then some [.int k m] else none
    | some (.func ..), .held x => (hdec x).map fun v => [v]
    | some (.struct fs), .agg parts => (flatFs P n fs.toList parts 0).bind fun cs => if cs.length = P.cellsOf t then some cs else none
    | some (.array m e), .agg parts => (flatEs P n e m parts).bind fun cs => if cs.length = P.cellsOf t then some cs else none
    | _, _ => none
def flatFs (P : Program) : Nat → List Field → List (DataW X) → Nat → Option (List Value)
  | _, [], [], _ => some []
  | 0, _, _, _ => none
  | n + 1, f :: fs, d :: ds, off => if f.offset = off then (flatV P n f.type d).bind fun cs => if cs.length = P.cellsOf f.type then (flatFs P n fs ds (off + cs.length)).map (cs ++ ·) else none else none
  | _, _, _, _ => none
def flatEs (P : Program) : Nat → TypeId → Nat → List (DataW X) → Option (List Value)
  | _, _, 0, [] => some []
  | 0, _, _, _ => none
  | n + 1, e, m + 1, d :: ds => (flatV P n e d).bind fun cs => if cs.length = P.cellsOf e then (flatEs P n e m ds).map (cs ++ ·) else none
  | _, _, _, _ => none
end

variable {hdec}

theorem append_of_cut {α : Type} {cs a b : List α} {n : Nat} (h1 : cs.take n = a) (h2 : cs.drop n = b) : cs = a ++ b := by
  rw [← h1, ← h2, List.take_append_drop]

mutual
theorem flatV_sound (hdecS : ∀ t f a b v, hdec (enc (t, .func f a b)) = some v → v = .func f a b) {w : World} {base : Nat} {sp : Nat → Bool} {held : Bool} : ∀ (n fuel : Nat) (t : TypeId) (cs : List Value) (d : DataW X) (p : List MemPlace) (vs : List Value),
    DataW.trod enc P w base sp held fuel t cs = some (d, p) → flatV hdec P n t d = some vs → cs = vs
  | 0, _, _, _, _, _, _, _, h => by simp [flatV] at h
  | n + 1, fuel, t, cs, d, p, vs, ht, h => by
    unfold flatV at h
    split at h
    · rename_i hu
      obtain ⟨b, h1, h2⟩ := DataW.trod_bool hu ht
      cases h2; cases h; exact h1
    · rename_i k k' m hu
      split at h
      case isFalse => cases h
      rename_i hk
      subst hk
      obtain ⟨b, h1, h2, _⟩ := DataW.trod_int hu ht
      cases h2; cases h; exact h1
    · rename_i hu
      simp only [Option.map_eq_some_iff] at h
      obtain ⟨v, hv, rfl⟩ := h
      cases fuel with
      | zero => simp [DataW.trod] at ht
      | succ m =>
        unfold DataW.trod at ht
        rw [hu] at ht
        split at ht <;> simp_all
        rw [← ht.2.1] at hv
        rw [hdecS _ _ _ _ _ hv]
    · rename_i fs parts hu
      simp only [Option.bind_eq_some_iff] at h
      obtain ⟨cs', h1, h2⟩ := h
      split at h2
      case isFalse => cases h2
      rename_i hl
      cases h2
      obtain ⟨xs, m, _, h3, h4, h5, h6⟩ := DataW.trod_struct hu ht
      cases h3
      have := flatFs_sound hdecS (w := w) (base := base) (sp := sp) (held := held) n m fs.toList xs 0 vs cs (by simpa using h5) (fun i f hf => h6 i f (by simpa using hf)) h1
      rw [List.drop_zero, List.take_of_length_le (by omega)] at this
      exact this
    · rename_i k e parts hu
      simp only [Option.bind_eq_some_iff] at h
      obtain ⟨cs', h1, h2⟩ := h
      split at h2
      case isFalse => cases h2
      rename_i hl
      cases h2
      obtain ⟨xs, m, _, h3, h4, h5, h6⟩ := DataW.trod_array hu ht
      cases h3
      have := flatEs_sound hdecS (w := w) (base := base) (sp := sp) (held := held) n m e k xs vs cs h5 h6 h1
      rw [← this, List.take_of_length_le (by omega)]
    · cases h
theorem flatFs_sound (hdecS : ∀ t f a b v, hdec (enc (t, .func f a b)) = some v → v = .func f a b) {w : World} {base : Nat} {sp : Nat → Bool} {held : Bool} : ∀ (n m : Nat) (fs : List Field) (xs : List (DataW X × List MemPlace)) (off : Nat) (vs cs : List Value), xs.length = fs.length →
    (∀ (i : Nat) (f : Field), fs[i]? = some f → DataW.trod enc P w base sp held m f.type ((cs.drop f.offset).take (P.cellsOf f.type)) = xs[i]?) → flatFs hdec P n fs (xs.map (·.1)) off = some vs → (cs.drop off).take vs.length = vs
  | n, m, [], [], off, vs, cs, _, _, h => by
    cases n <;> (simp [flatFs] at h; subst h; simp)
  | n, m, [], _ :: _, off, vs, cs, hl, _, h => by simp at hl
  | n, m, _ :: _, [], off, vs, cs, hl, _, h => by simp at hl
  | 0, m, f :: fs, x :: xs, off, vs, cs, hl, hx, h => by simp [flatFs] at h
  | n + 1, m, f :: fs, x :: xs, off, vs, cs, hl, hx, h => by
    simp only [List.map_cons, flatFs] at h
    split at h
    case isFalse => cases h
    rename_i ho
    simp only [Option.bind_eq_some_iff] at h
    obtain ⟨v1, h1, h2⟩ := h
    split at h2
    case isFalse => cases h2
    rename_i hc
    simp only [Option.map_eq_some_iff] at h2
    obtain ⟨v2, h2, rfl⟩ := h2
    have g0 := hx 0 f rfl
    simp only [List.getElem?_cons_zero] at g0
    have e1 := flatV_sound hdecS n m f.type _ x.1 x.2 v1 g0 h1
    have e2 := flatFs_sound hdecS (w := w) (base := base) (sp := sp) (held := held) n m fs xs (off + v1.length) v2 cs (by simpa using hl) (fun i f hf => by simpa using hx (i + 1) f (by simpa using hf)) h2
    rw [ho, ← hc] at e1
    refine List.ext_getElem? fun i => ?_
    rw [List.length_append, ← e1, ← e2]
    simp [List.getElem?_append, List.getElem?_take, List.getElem?_drop]
    grind
theorem flatEs_sound (hdecS : ∀ t f a b v, hdec (enc (t, .func f a b)) = some v → v = .func f a b) {w : World} {base : Nat} {sp : Nat → Bool} {held : Bool} : ∀ (n m : Nat) (e : TypeId) (k : Nat) (xs : List (DataW X × List MemPlace)) (vs cs : List Value), xs.length = k →
    (∀ (i : Nat), i < k → DataW.trod enc P w base sp held m e ((cs.drop (i * P.cellsOf e)).take (P.cellsOf e)) = xs[i]?) → flatEs hdec P n e k (xs.map (·.1)) = some vs → cs.take vs.length = vs
  | n, m, e, 0, [], vs, cs, _, _, h => by
    cases n <;> (simp [flatEs] at h; subst h; simp)
  | n, m, e, 0, _ :: _, vs, cs, hl, _, h => by simp at hl
  | n, m, e, _ + 1, [], vs, cs, hl, _, h => by simp at hl
  | 0, m, e, k + 1, x :: xs, vs, cs, hl, hx, h => by simp [flatEs] at h
  | n + 1, m, e, k + 1, x :: xs, vs, cs, hl, hx, h => by
    simp only [List.map_cons, flatEs, Option.bind_eq_some_iff] at h
    obtain ⟨v1, h1, h2⟩ := h
    split at h2
    case isFalse => cases h2
    rename_i hc
    simp only [Option.map_eq_some_iff] at h2
    obtain ⟨v2, h2, rfl⟩ := h2
    have g0 := hx 0 (by omega)
    simp only [List.getElem?_cons_zero, Nat.zero_mul, List.drop_zero] at g0
    have e1 := flatV_sound hdecS n m e _ x.1 x.2 v1 g0 h1
    have e2 := flatEs_sound hdecS (w := w) (base := base) (sp := sp) (held := held) n m e k xs v2 (cs.drop (P.cellsOf e)) (by simpa using hl) (fun i hi => by
      have := hx (i + 1) (by omega)
      rw [List.drop_drop]
      rw [show P.cellsOf e + i * P.cellsOf e = (i + 1) * P.cellsOf e by rw [Nat.succ_mul]; omega]
      simpa using this) h2
    rw [← hc] at e1 e2
    refine List.ext_getElem? fun i => ?_
    rw [List.length_append, ← e1, ← e2]
    simp [List.getElem?_append, List.getElem?_take, List.getElem?_drop]
    grind
end

/-- a map that reads as these entries: each entry stands in it, and nothing else does -/
theorem open_tab {w : World} {base : Nat} {sp : Nat → Bool} {held : Bool} {t k e : TypeId} (ht : P.underlying t = some (.map k e)) {fuel : Nat} {cs : List Value} {L : List (Lit × DataW X)} {p : List MemPlace} (h : DataW.trod enc P w base sp held fuel t cs = some (.map L, p)) :
    ∃ b es clock n, cs = [.map (some b)] ∧ w.heap[b]? = some (.map es clock) ∧ es.size = L.length ∧ (∀ x ∈ es.toList, ∃ y ∈ L, keyOf P k x.key = some y.1 ∧ ∃ q, DataW.trod enc P w base sp held n e x.val.cells.toList = some (y.2, q)) ∧
      (∀ y ∈ L, ∃ x ∈ es.toList, keyOf P k x.key = some y.1 ∧ x.val.formed P e = true ∧ ∃ q, DataW.trod enc P w base sp held n e x.val.cells.toList = some (y.2, q)) ∧ (es.toList.map fun x => keyOf P k x.key).Perm (L.map fun y => some y.1) := by
  cases fuel with
  | zero => simp [DataW.trod] at h
  | succ n =>
    have h0 := h
    rw [DataW.trod_step] at h
    unfold DataW.trodStep at h
    rw [ht] at h
    split at h <;> simp_all
    rename_i b hke
    obtain ⟨rfl, rfl⟩ := hke
    clear h
    rw [DataW.trod_step] at h0
    unfold DataW.trodStep at h0
    cases hb : w.heap[b]? with
    | none => simp [ht, hb] at h0
    | some o =>
      cases o
      case map es clock =>
        simp only [ht, hb] at h0
        split at h0
        · rename_i hc
          simp only [Option.bind_eq_some_iff] at h0
          obtain ⟨entries, he, h3⟩ := h0
          split at h3
          · simp only [Option.some.injEq, Prod.mk.injEq, DataW.map.injEq] at h3
            obtain ⟨hL, _⟩ := h3
            have hperm := (sorted_perm (entries.map (·.1)))
            rw [hL] at hperm
            have hlen := mapM_len he
            have hat := fun i a => Lib.mapM_at he i a
            have hone : ∀ (x : MapEntry) (z : (Lit × DataW X) × List MemPlace), ((keyOf P k x.key).bind fun key => if x.val.formed P e = true then (DataW.trod enc P w base sp held n e x.val.cells.toList).map fun y => ((key, y.1), y.2) else none) = some z →
                keyOf P k x.key = some z.1.1 ∧ x.val.formed P e = true ∧ DataW.trod enc P w base sp held n e x.val.cells.toList = some (z.1.2, z.2) := by
              intro x z hz
              simp only [Option.bind_eq_some_iff] at hz
              obtain ⟨key, h1, h2⟩ := hz
              split at h2
              case isFalse => cases h2
              rename_i hf
              simp only [Option.map_eq_some_iff] at h2
              obtain ⟨y, h2, rfl⟩ := h2
              exact ⟨h1, hf, h2⟩
            refine ⟨es, ⟨clock, rfl⟩, ?_, n, ?_, ?_, ?_⟩
            · have := hperm.length_eq
              simp at this hlen
              omega
            · intro x hx
              obtain ⟨i, hi⟩ := List.getElem?_of_mem (Array.mem_toList_iff.2 hx)
              obtain ⟨z, hz1, hz2⟩ := hat i x hi
              obtain ⟨g1, _, g3⟩ := hone x z hz2
              exact ⟨z.1.1, z.1.2, hperm.mem_iff.2 (List.mem_map.2 ⟨z, List.mem_of_getElem? hz1, rfl⟩), g1, z.2, g3⟩
            · intro a c hac
              obtain ⟨z, hz, hze⟩ := List.mem_map.1 (hperm.mem_iff.1 hac)
              obtain ⟨i, hi⟩ := List.getElem?_of_mem hz
              have hlt : i < es.toList.length := by
                have := (List.getElem?_eq_some_iff.1 hi).1
                simp at hlen ⊢; omega
              obtain ⟨z', hz1, hz2⟩ := hat i _ (List.getElem?_eq_getElem hlt)
              rw [hi] at hz1
              cases hz1
              obtain ⟨g1, g2, g3⟩ := hone _ _ hz2
              rw [hze] at g1 g3
              exact ⟨_, Array.mem_toList_iff.1 (List.getElem_mem hlt), g1, g2, _, g3⟩
            · have : (es.toList.map fun x => keyOf P k x.key) = (entries.map fun z => some z.1.1) := by
                refine List.ext_getElem? fun i => ?_
                simp only [List.getElem?_map]
                cases hi : es.toList[i]? with
                | none =>
                  have : entries[i]? = none := by
                    simp at hi hlen ⊢; omega
                  rw [this]; rfl
                | some x =>
                  obtain ⟨z, hz1, hz2⟩ := hat i x hi
                  rw [hz1]
                  simp [(hone x z hz2).1]
              rw [this]
              have := hperm.symm.map fun y => some y.1
              simpa [Function.comp_def] using this
          · cases h3
        · cases h0
      all_goals (simp [ht, hb] at h0; done)
end

end Go.E
