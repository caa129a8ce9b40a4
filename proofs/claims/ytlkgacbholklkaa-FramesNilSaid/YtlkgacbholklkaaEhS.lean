/-
  THE EVALUATOR, PART S: from a run of the evaluator to the row of a law.
-/
import Derived.Test.YtlkgacbholklkaaEhR
import Derived.Carry
import Derived.ProofKit
import Derived.OpenShut
import Derived.JoinedCond
set_option linter.unusedSimpArgs false
set_option linter.unusedVariables false
namespace Go.E
open Go Go.ChangeShapes Go.WideShapes Go.RowKit

variable {P : Program}

/-- a stand-in for a value that no operation looks at -/
def J : Value := .complex .f64 0 0

theorem J_rel {φ : Phi} {v : Value} (h : v.oneCell' = true) (hb : ∀ b, v ≠ .bool b) : VR φ J v := .junk _ _ _ h hb

/-- nothing that could be written was there: what was there is as it was -/
theorem Stp.below {φ φ' : Phi} {H H' : AHeap} {w w' : World} (h : Stp φ H w φ' H' w') (hn : ∀ k, ¬ Wr φ H k) : Below w.heap.size w w' :=
  ⟨h.os, h.tape, h.output, h.size, fun k hk => h.keep k hk (hn k)⟩

def isBoolT (P : Program) (t : TypeId) : Bool := match P.underlying t with | some .bool => true | _ => false

theorem cell_shape {w : World} {r : Reach} {base : Nat} {u : TypeId} {v : Value} (h : Cell.okWide P w r base u v) : if isBoolT P u = true then ∃ b, v = .bool b else v.oneCell' = true ∧ ∀ b, v ≠ .bool b := by
  unfold isBoolT
  unfold Cell.okWide Cell.ok at h
  cases hu : P.underlying u with
  | none => simp [hu] at h
  | some d =>
    rw [hu] at h
    cases d <;> cases v <;> simp_all [Value.oneCell']

/-- the template: true where a bool stands -/
def fillB : List Bool → List Bool → List Value
  | f :: fs, b :: bs => (if f then .bool b else J) :: fillB fs bs
  | _, _ => []

theorem fillB_rel {φ : Phi} : ∀ (fs : List Bool) (vs : List Value), vs.length = fs.length → (∀ (i : Nat) f v, fs[i]? = some f → vs[i]? = some v → if f = true then ∃ b, v = .bool b else v.oneCell' = true ∧ ∀ b, v ≠ .bool b) →
    ∃ bs, bs.length = fs.length ∧ VRs φ (fillB fs bs) vs
  | [], [], _, _ => ⟨[], rfl, .nil⟩
  | f :: fs, v :: vs, hl, h => by
    obtain ⟨bs, h1, h2⟩ := fillB_rel (φ := φ) fs vs (by simpa using hl) (fun i f v a b => h (i + 1) f v (by simpa using a) (by simpa using b))
    have h0 := h 0 f v rfl rfl
    cases f with
    | true =>
      rw [if_pos rfl] at h0
      obtain ⟨b, rfl⟩ := h0
      exact ⟨b :: bs, by simp [h1], .cons (.bool b) h2⟩
    | false => exact ⟨true :: bs, by simp [h1], .cons (J_rel (by simpa using h0.1) (by simpa using h0.2)) h2⟩

def shapeT (P : Program) (t : TypeId) : Option (Bool × List Bool) :=
  match P.underlying t with
  | some (.struct _) | some (.array _ _) => (P.cellTypes P.depth t).bind fun ts => if P.cellsOf t = ts.length then some (true, ts.map (isBoolT P)) else none
  | _ => some (false, [isBoolT P t])

def fillArg (s : Bool × List Bool) (bs : List Bool) : Value :=
  if s.1 then .agg ⟨fillB s.2 bs⟩ else (fillB s.2 bs).headD undef

theorem arg_rel {φ : Phi} {w : World} {r : Reach} {base : Nat} {t : TypeId} {v : Value} {s : Bool × List Bool} (hs : shapeT P t = some s) (h : Value.okWide P w r base t v) : ∃ bs, bs.length = s.2.length ∧ VR φ (fillArg s bs) v := by
  have row : ∀ cs : Array Value, cs.size = P.cellsOf t → Row.okWide P w r base t cs → (P.cellTypes P.depth t).bind (fun ts => if P.cellsOf t = ts.length then some (true, ts.map (isBoolT P)) else none) = some s → ∃ bs, bs.length = s.2.length ∧ VR φ (fillArg s bs) (.agg cs) := by
    intro cs hcs ⟨ts, h1, _, h3⟩ hs
    rw [h1] at hs
    simp only [Option.bind_some] at hs
    split at hs
    case isFalse => cases hs
    rename_i hc
    cases hs
    obtain ⟨bs, g1, g2⟩ := fillB_rel (φ := φ) (ts.map (isBoolT P)) cs.toList (by simp [hcs, hc]) (fun i f v a b => by
      obtain ⟨u, k1, k2⟩ := h3 i v (by simpa using b)
      have hi : i < ts.length := by
        have := (List.getElem?_eq_some_iff.1 a).1
        simpa using this
      rw [Nat.mod_eq_of_lt hi] at k1
      simp only [List.getElem?_map, k1, Option.map_some, Option.some.injEq] at a
      subst a
      exact cell_shape k2)
    exact ⟨bs, g1, by simpa [fillArg] using VR.agg g2⟩
  have one : Cell.okWide P w r base t v → s = (false, [isBoolT P t]) → ∃ bs, bs.length = s.2.length ∧ VR φ (fillArg s bs) v := by
    rintro h rfl
    have := cell_shape h
    cases hb : isBoolT P t with
    | true =>
      rw [hb] at this
      rw [if_pos rfl] at this
      obtain ⟨b, rfl⟩ := this
      exact ⟨[b], rfl, by simp [fillArg, fillB]; exact .bool b⟩
    | false =>
      rw [hb] at this
      exact ⟨[true], rfl, by simp [fillArg, fillB]; exact J_rel (by simpa using this.1) (by simpa using this.2)⟩
  unfold shapeT at hs
  unfold Value.okWide at h
  split at h
  · rename_i heq
    rw [heq] at hs
    obtain ⟨cs, rfl, h1, h2⟩ := h
    exact row cs h1 h2 hs
  · rename_i heq
    rw [heq] at hs
    obtain ⟨cs, rfl, h1, h2⟩ := h
    exact row cs h1 h2 hs
  · rename_i n1 n2
    refine one h ?_
    split at hs
    · rename_i heq; exact absurd heq (n1 _)
    · rename_i heq; exact absurd heq (n2 _ _)
    · cases hs; rfl

/-- the arguments of a call, by their types alone -/
inductive Fills : List (Bool × List Bool) → List (List Bool) → Prop
  | nil : Fills [] []
  | cons {s : Bool × List Bool} {bs : List Bool} {ss : List (Bool × List Bool)} {bss : List (List Bool)} (h : bs.length = s.2.length) (hs : Fills ss bss) : Fills (s :: ss) (bs :: bss)

def fillArgs (ss : List (Bool × List Bool)) (bss : List (List Bool)) : List Value := List.zipWith fillArg ss bss

def shapesT (P : Program) : List TypeId → Option (List (Bool × List Bool))
  | [] => some []
  | t :: ts => (shapeT P t).bind fun s => (shapesT P ts).map (s :: ·)

theorem args_rel {φ : Phi} {w : World} {r : Reach} {base : Nat} : ∀ {ts : List TypeId} {vs : List Value} {ss : List (Bool × List Bool)}, shapesT P ts = some ss → vs.length = ts.length → (∀ (j : Nat) t v, ts[j]? = some t → vs[j]? = some v → Value.okWide P w r base t v) →
    ∃ bss, Fills ss bss ∧ VRs φ (fillArgs ss bss) vs
  | [], [], _, h, _, _ => by simp [shapesT] at h; subst h; exact ⟨[], .nil, .nil⟩
  | t :: ts, v :: vs, _, h, hl, hv => by
    simp only [shapesT, Option.bind_eq_some_iff, Option.map_eq_some_iff] at h
    obtain ⟨s, h1, ss, h2, rfl⟩ := h
    obtain ⟨bs, h3, h4⟩ := arg_rel (φ := φ) h1 (hv 0 t v rfl rfl)
    obtain ⟨bss, h5, h6⟩ := args_rel (φ := φ) h2 (by simpa using hl) (fun j t v a b => hv (j + 1) t v (by simpa using a) (by simpa using b))
    exact ⟨bs :: bss, .cons h3 h5, .cons h4 h6⟩

variable {Hd : Type} {enc : TypeId × Value → Hd}

theorem trodAll_length {w : World} {base : Nat} {spare : Nat → Bool} {held : Bool} : ∀ {ts : List TypeId} {vs : List Value} {ds : List (DataW Hd)} {ps : List MemPlace}, DataW.TrodAll enc P w base spare held ts vs ds ps → vs.length = ts.length ∧ ds.length = ts.length
  | [], _, _, _, h => by obtain ⟨rfl, rfl, rfl⟩ := trodAll_nil h; simp
  | _ :: _, _, _, _, h => by
    obtain ⟨v, vs1, d, ds1, a, b, rfl, rfl, rfl, h1, h2⟩ := trodAll_cons h
    have := trodAll_length h2
    simp [this]

theorem trodAll_below (hl : laidOutB P = true) {W W' : World} (hb : Below W.heap.size W W') : ∀ {ts : List TypeId} {vs : List Value} {ds : List (DataW Hd)} {ps : List MemPlace}, (∀ t ∈ ts, P.readableRec t = true ∧ t < P.types.size) →
    DataW.TrodAll enc P W 0 (fun _ => true) true ts vs ds ps → (∀ p ∈ ps, p.block < W.heap.size) → DataW.TrodAll enc P W' 0 (fun b => decide (b < W.heap.size)) true ts vs ds ps
  | [], _, _, _, _, h, _ => by obtain ⟨rfl, rfl, rfl⟩ := trodAll_nil h; exact trodAll_mk0
  | t :: ts, _, _, _, ht, h, hp => by
    obtain ⟨v, vs1, d, ds1, a, b, rfl, rfl, rfl, h1, h2⟩ := trodAll_cons h
    obtain ⟨r1, r2⟩ := ht t (by simp)
    exact trodAll_cons_mk (Below.trod hl r1 r2 h1 hb (fun x hx => hp x (List.mem_append_left _ hx))) (trodAll_below hl hb (fun t' ht' => ht t' (List.mem_cons_of_mem _ ht')) h2 (fun x hx => hp x (List.mem_append_right _ hx)))

/-- the row's last word, of a law that answers one bool and leaves what it was handed as it was -/
theorem post_of_below {f : Func} {s : ChangeSpec} {tb : TypeId} {W W' : World} {args : Array Value} {ds gs : List (DataW Hd)} {before : List MemPlace} {fresh handsOn : Bool}
    (hl : laidOutB P = true) (hpar : ∀ t ∈ f.params.toList, P.readableRec t = true ∧ t < P.types.size) (hvars : s.vars = []) (hrt : f.resultTypes = #[tb]) (htb : P.underlying tb = some .bool)
    (hfn : ∀ xs : List (DataW Hd), xs.length = f.params.size → s.fn Hd xs = { results := [.lit (.bool true)], args := xs })
    (hW : DataW.Whole enc P f.params.toList s.vars false W args.toList ds gs before) (hb : Below W.heap.size W W') :
    s.post enc P f false fresh handsOn false W args (.bool true) W' := by
  have hW' := hW
  obtain ⟨p, q, hA, hV, rfl, hfz, hnd⟩ := hW
  rw [hvars] at hV
  obtain ⟨rfl, rfl⟩ := trodVars_none hV
  have hlen := (trodAll_length hA).2
  have hfn' := hfn (ds ++ []) (by simpa using hlen)
  have hlt : ∀ x ∈ p, x.block < W.heap.size := fun x hx => hW'.lt x (by simpa using hx)
  refine ⟨ds, [], _, [], p, [], hW', ?_, ?_, ?_, hb.frame _, fun h => by cases h⟩
  · rw [hfn', hrt]
    exact trodAll_cons_mk (shut_bool htb true) trodAll_mk0
  · rw [hfn']
    simpa using trodAll_below hl hb hpar hA hlt
  · rw [hvars, hfn']
    rfl

/-- A RUN OF THE EVALUATOR WHATEVER THE ARGUMENTS ARE: the machine's call answers true, and what was there is as it was. -/
theorem calls_of_run (hm : P.follows .mixedOrders = true) {n f : Nat} {ts : List TypeId} {ss : List (Bool × List Bool)} (hss : shapesT P ts = some ss)
    (hrun : ∀ bss, Fills ss bss → ((callN (cProg P 0) n (.fn f) (fillArgs ss bss) AHeap.empty).map (·.1)) = some (.bool true))
    {W : World} {r : Reach} {base : Nat} {args : Array Value} (hlen : args.toList.length = ts.length) (hval : ∀ (j : Nat) t v, ts[j]? = some t → args.toList[j]? = some v → Value.okWide P W r base t v) :
    Calls P f args W fun e W' => e = .returned (.bool true) ∧ Below W.heap.size W W' := by
  obtain ⟨bss, h1, h2⟩ := args_rel (φ := fun _ => none) hss hlen hval
  have h3 := hrun bss h1
  simp only [Option.map_eq_some_iff] at h3
  obtain ⟨⟨v, H'⟩, h3, rfl⟩ := h3
  have := (call_sound hm n (.fn f) _ _ _ _ h3 (fun _ => none) _ W (fun g hg => absurd hg (Nat.not_lt_zero _)) h2 ⟨fun b m h => (by cases h), fun b m h => (by cases h), fun b c m k h => (by cases h)⟩).2
  refine this.mono fun e W' ⟨φ', v', he, hv, hs⟩ => ?_
  cases hv
  exact ⟨he, hs.below fun k ⟨b, m, hb, _⟩ => (by cases hb)⟩

end Go.E
