/-
  THE EVALUATOR, PART Z: closed functions that are known where the first heap stands; how functions are opened.
-/
import Derived.Test.YtlkgacbholklkaaEwY
set_option linter.unusedSimpArgs false
set_option linter.unusedVariables false
namespace Go.E
open Go
variable {P : Program} {G : Nat}
structure Glob (objs : List AObj) (H : AHeap) : Prop where
  get : ∀ b, b < objs.length → H.get b = objs.getD b .dead
  le : objs.length ≤ H.next

theorem Glob.start (objs : List AObj) : Glob objs (startH objs) := ⟨fun b _ => get_startH objs b, by rw [next_startH]; exact Nat.le_refl _⟩
theorem Glob.ext {objs : List AObj} {H H' : AHeap} {o o' : List Nat} (h : Glob objs H) (k : Ext o H o' H') (hb : ∀ b ∈ o, objs.length ≤ b) : Glob objs H' :=
  ⟨fun b hl => (k.keep b (Nat.lt_of_lt_of_le hl h.le) fun hm => absurd hl (by have := hb b hm; omega)).trans (h.get b hl), Nat.le_trans h.le k.next⟩

def lowVal (n : Nat) : Value → Bool
  | .bool _ | .int _ _ | .float _ _ | .string _ | .nilFunc | .nilIface | .map none | .pointer none => true
  | .map (some b) => decide (b < n)
  | .func (.func _) ⟨[]⟩ ⟨[]⟩ => true
  | _ => false

def low (φ : Phi) (n : Nat) : Phi := fun b => if b < n then φ b else none
theorem low_some {φ : Phi} {n b : Nat} {m : Emb} (h : low φ n b = some m) : b < n ∧ φ b = some m := by
  simp only [low] at h
  split at h
  · rename_i hl; exact ⟨hl, h⟩
  · cases h

theorem lowVal_rel {φ : Phi} {n : Nat} {v v' : Value} (hl : lowVal n v = true) (h : VR φ v v') : VR (low φ n) v v' := by
  cases h with
  | bool b => exact .bool b
  | int k n => exact .int k n
  | float k n => exact .float k n
  | str s => exact .str s
  | ptrNil => exact .ptrNil
  | mapNil => exact .mapNil
  | nilFunc => exact .nilFunc
  | nilIface => exact .nilIface
  | map h => exact .map (by simp only [lowVal, decide_eq_true_eq] at hl; simp only [low, hl, if_true, h])
  | @func f xs xs' ys ys' h1 h2 =>
    cases xs with
    | nil => cases ys with
      | nil => cases h1; cases h2; exact .func f .nil .nil
      | cons a b => simp [lowVal] at hl
    | cons a b => simp [lowVal] at hl
  | _ => simp [lowVal] at hl

def lowObj (n : Nat) : AObj → Bool
  | .dead => true
  | .cells cs _ ro => ro && cs.all (lowVal n)
  | .table es => es.all fun e => lowVal n e.val
  | _ => false

theorem findNow_mem {d : TypeDesc} {k : Value} : ∀ (es : List MapEntry) (i : Nat) {j : Nat} {v : Value}, Instr.findNow d k es i = some (some (j, v)) → ∃ e ∈ es, e.val = v
  | [], i, j, v, h => by simp [Instr.findNow] at h
  | e :: es, i, j, v, h => by
    simp only [Instr.findNow] at h
    split at h
    · cases h; exact ⟨e, by simp, rfl⟩
    · obtain ⟨e', h1, h2⟩ := findNow_mem es (i + 1) h; exact ⟨e', by simp [h1], h2⟩
    · cases h

theorem lowObj_rel {φ : Phi} {n : Nat} {m : Emb} {w : World} {o : AObj} (hl : lowObj n o = true) (h : ObjR φ m w o) : ObjR (low φ n) m w o := by
  cases o with
  | dead => trivial
  | cells cs es ro =>
    simp only [lowObj, Bool.and_eq_true, List.all_eq_true] at hl
    obtain ⟨h1, h2, h3, h4, C, el, fr, h5, h6, h7, h8⟩ := h
    refine ⟨h1, h2, h3, h4, C, el, fr, h5, h6, fun i v hv => ?_, h8⟩
    obtain ⟨v', hv', hr'⟩ := h7 i v hv
    exact ⟨v', hv', lowVal_rel (hl.2 v (List.mem_of_getElem? hv)) hr'⟩
  | table es =>
    simp only [lowObj, List.all_eq_true] at hl
    obtain ⟨es', clock, h1, h2, h3⟩ := h
    refine ⟨es', clock, h1, h2, fun d k hk => ⟨(h3 d k hk).1, fun j v hv => ?_⟩⟩
    obtain ⟨j', v', h4, h5⟩ := (h3 d k hk).2 j v hv
    obtain ⟨e, he, rfl⟩ := findNow_mem es 0 hv
    exact ⟨j', v', h4, lowVal_rel (hl e he) h5⟩
  | map es clock => simp [lowObj] at hl
  | iter a b c d => simp [lowObj] at hl
  | siter a b => simp [lowObj] at hl
  | loop a b c d e f => simp [lowObj] at hl

theorem lowObj_ro {n : Nat} {o : AObj} (hl : lowObj n o = true) : o.writable = false := by
  cases o <;> simp_all [lowObj, AObj.writable]

theorem knownAt_ok (hm : P.follows .mixedOrders = true) {objs : List AObj} (hlo : objs.all (lowObj objs.length) = true) (hG : G ≤ objs.length) {f n : Nat} {u : Value} {H : AHeap} (hgl : Glob objs H)
    (hc : plainV u = true) (hr : (callN (cProg P G) n (.fn f) [] (startH objs)).map (·.1) = some u) {φ : Phi} {w : World} (hg : GOk G φ) (hs : Sim φ H w) : FidOk P (Gives φ H w u H) φ #[] w (.fn f) := by
  rw [List.all_eq_true] at hlo
  simp only [Option.map_eq_some_iff] at hr
  obtain ⟨⟨u', H1⟩, hr, rfl⟩ := hr
  have hobj : ∀ b, lowObj objs.length ((startH objs).get b) = true := fun b => by
    rw [get_startH, List.getD_eq_getElem?_getD]
    cases hb : objs[b]? with
    | none => rfl
    | some o => exact hlo o (List.mem_of_getElem? hb)
  have hnw : ∀ b, ((startH objs).get b).writable = false := fun b => lowObj_ro (hobj b)
  have hsim : Sim (low φ objs.length) (startH objs) w := by
    refine ⟨fun b m hb => ?_, fun b m hb => ?_, fun b c m k hb hc' he hne hw => ?_⟩
    · rw [next_startH]; exact (low_some hb).1
    · obtain ⟨hl, hb⟩ := low_some hb
      have := hs.obj b m hb
      rw [hgl.get b hl, ← get_startH] at this
      exact lowObj_rel (hobj b) this
    · rw [hnw] at hw; cases hw
  obtain ⟨k1, k2⟩ := call_sound hm n hr (φ := low φ objs.length) (args' := []) (w := w) (fun g hgG => by
    obtain ⟨m, h1, h2⟩ := hg g hgG
    exact ⟨m, by simp only [low]; rw [if_pos (by omega)]; exact h1, h2⟩) .nil hsim
  refine ⟨k1, k2.mono fun e w' ⟨φ', v', he, hv, hst⟩ => ?_⟩
  have hb : ∀ k, k < w.heap.size → w'.heap[k]? = w.heap[k]? := fun k hk => hst.keep k hk (fun ⟨b, m, hb, _, hw⟩ => by rw [hnw] at hw; cases hw)
  obtain rfl := plain_eq hv hc
  refine ⟨φ, v', he, plainV_rel hc φ, ⟨.refl _, ⟨hs.dom, fun b m hbm => ?_, hs.inj⟩, hst.os, hst.tape, hst.output, hst.size, fun k hk _ => hb k hk, fun k hk h => h, Nat.le_refl _, fun b _ h => ⟨rfl, h⟩⟩⟩
  by_cases hd : H.get b = .dead
  · rw [hd]; trivial
  · exact ObjR.mono (.refl _) (hb _ (hs.blk_lt hbm hd)) (hs.obj b m hbm)

def extKnown (hm : P.follows .mixedOrders = true) {objs : List AObj} (hlo : objs.all (lowObj objs.length) = true) (hG : G ≤ objs.length) {K : List (Nat × Value)} {n : Nat}
    (hK : ∀ f v, K.lookup f = some v → plainV v = true ∧ (callN (cProg P G) n (.fn f) [] (startH objs)).map (·.1) = some v) : Extra P G where
  step _ f args H R := ∃ g v, f = .fn g ∧ args = [] ∧ Glob objs H ∧ K.lookup g = some v ∧ R v H
  mono _ h k := by
    obtain ⟨g, v, h1, h2, h3, h4, h5⟩ := h
    exact ⟨g, v, h1, h2, h3, h4, k _ _ h5⟩
  feas h := by
    obtain ⟨g, v, h1, h2, h3, h4, h5⟩ := h
    exact ⟨_, _, h5⟩
  sound _ _ _ _ _ h _ _ _ hg ha hs := by
    obtain ⟨g, v, rfl, rfl, h3, h4, h5⟩ := h
    cases ha
    obtain ⟨hc, hr⟩ := hK g v h4
    exact (knownAt_ok hm hlo hG h3 hc hr hg hs).mono fun e w' h => ⟨_, _, h5, h⟩

theorem wpF_ext {X : Extra P G} {f : Nat} {args : List Value} {H : AHeap} {R : Value → AHeap → Prop} (h : X.step (callsX X) (.fn f) args H R) : wpF (callsX X) f args H R := callsX_in (.inr h)
theorem wpF_known {hm : P.follows .mixedOrders = true} {objs : List AObj} {hlo : objs.all (lowObj objs.length) = true} {hG : G ≤ objs.length} {K : List (Nat × Value)} {n : Nat}
    {hK : ∀ f v, K.lookup f = some v → plainV v = true ∧ (callN (cProg P G) n (.fn f) [] (startH objs)).map (·.1) = some v} {Y : Extra P G} {f : Nat} {v : Value} (hf : K.lookup f = some v) {H : AHeap} (hgl : Glob objs H) {R : Value → AHeap → Prop} (hR : R v H) : wpF (callsX ((extKnown hm hlo hG hK).or Y)) f [] H R :=
  wpF_ext (.inl ⟨f, v, rfl, rfl, hgl, hf, hR⟩)
end Go.E
