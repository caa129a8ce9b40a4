/-
  THE EVALUATOR, PART ZB: from a law's own precondition to the row.
-/
import Derived.Test.YtlkgacbholklkaaEwZa
set_option linter.unusedSimpArgs false
set_option linter.unusedVariables false
namespace Go.E
open Go Go.ChangeShapes Go.WideShapes Go.ChangeAt Go.RowKit
variable {P : Program}
def aggT (P : Program) (t : TypeId) : Bool := match P.underlying t with | some (.struct _) | some (.array _ _) => true | _ => false
def argV (P : Program) (t : TypeId) (cells : List Value) : Value := if aggT P t then .agg ⟨cells⟩ else cells.headD undef

def ArgsOk (P : Program) (gs : List AObj) (n : Nat) : List TypeId → List Value → Prop
  | [], [] => True
  | t :: ts, a :: as => (∃ cells, a = argV P t cells ∧ OkA P gs n t cells) ∧ ArgsOk P gs n ts as
  | _, _ => False

theorem ArgsOk.mono {gs gs' : List AObj} {n : Nat} : ∀ (ts : List TypeId) (as : List Value), ArgsOk P gs n ts as → ArgsOk P (gs ++ gs') n ts as
  | [], [], _ => trivial
  | [], _ :: _, h => h
  | _ :: _, [], h => h
  | t :: ts, a :: as, ⟨⟨cells, h1, h2⟩, h3⟩ => ⟨⟨cells, h1, OkA.mono _ _ _ h2⟩, ArgsOk.mono ts as h3⟩

theorem cells_one {v : Value} (h : v.oneCell' = true) : v.cells.toList = [v] := by
  cases v <;> first | rfl | (simp [Value.oneCell'] at h)

section
variable {X : Type} {enc : TypeId × Value → X} {w : World} {base : Nat} {sp : Nat → Bool} {held : Bool} {r : Reach} {b0 : Nat}
theorem args_lay (hsp : ∀ b, sp b = true) {n : Nat} : ∀ (ts : List TypeId) (vs : List Value) (ds : List (DataW X)) (ps : List MemPlace) (gs : List AObj) (ms : List Emb), St w gs ms → (∀ t ∈ ts, layT P n t = true) →
    (∀ (j : Nat) t v, ts[j]? = some t → vs[j]? = some v → Value.okWide P w r b0 t v) → DataW.TrodAll enc P w base sp held ts vs ds ps →
    ∃ gs' ms' as, St w (gs ++ gs') (ms ++ ms') ∧ VRs (fun b => (ms ++ ms')[b]?) as vs ∧ ArgsOk P (gs ++ gs') n ts as
  | [], [], [], ps, gs, ms, hs, _, _, _ => ⟨[], [], [], by simpa using hs, .nil, trivial⟩
  | [], [], _ :: _, ps, gs, ms, hs, _, _, h => h.elim
  | [], _ :: _, _, ps, gs, ms, hs, _, _, h => by cases h
  | _ :: _, [], _, ps, gs, ms, hs, _, _, h => by cases h
  | _ :: _, _ :: _, [], ps, gs, ms, hs, _, _, h => by cases h
  | t :: ts, v :: vs, d :: ds, ps, gs, ms, hs, hT, hv, h => by
    obtain ⟨p, q, ⟨fuel, hf⟩, hA, _⟩ := h
    obtain ⟨g1, m1, cells, hs1, hr1, ho1, _⟩ := lay (enc := enc) (sp := sp) (held := held) (base := base) hsp n t v.cells.toList gs ms (hT t (by simp)) hs ⟨fuel, _, hf⟩
    obtain ⟨g2, m2, as, hs2, hr2, ho2⟩ := args_lay hsp ts vs ds q _ _ hs1 (fun t ht => hT t (by simp [ht])) (fun j t v h1 h2 => hv (j + 1) t v (by simpa using h1) (by simpa using h2)) hA
    refine ⟨g1 ++ g2, m1 ++ m2, argV P t cells :: as, by rw [← List.append_assoc, ← List.append_assoc]; exact hs2, ?_, ?_⟩
    · rw [← List.append_assoc]
      refine .cons (VR.mono (phi_le _ _) ?_) hr2
      have hw := hv 0 t v rfl rfl
      unfold argV
      cases ha : aggT P t with
      | true =>
        rw [if_pos rfl]
        unfold Value.okWide at hw
        unfold aggT at ha
        split at ha
        · rename_i hu
          rw [hu] at hw
          obtain ⟨cs, rfl, _⟩ := hw
          exact .agg hr1
        · rename_i hu
          rw [hu] at hw
          obtain ⟨cs, rfl, _⟩ := hw
          exact .agg hr1
        · cases ha
      | false =>
        rw [if_neg (by simp)]
        have hc : Cell.okWide P w r b0 t v := by
          unfold Value.okWide at hw
          unfold aggT at ha
          split at hw
          · rename_i hu; rw [hu] at ha; cases ha
          · rename_i hu; rw [hu] at ha; cases ha
          · exact hw
        have h1 : v.oneCell' = true := by
          have := cell_shape hc
          split at this
          · obtain ⟨b, rfl⟩ := this; rfl
          · exact this.1
        rw [cells_one h1] at hr1
        cases hr1 with
        | cons h2 h3 => cases h3; exact h2
    · rw [← List.append_assoc]
      exact ⟨⟨cells, rfl, OkA.mono _ _ _ ho1⟩, ho2⟩

theorem St.sim {gs : List AObj} {ms : List Emb} (h : St w gs ms) : Sim (fun b => ms[b]?) (startH gs) w ∧ ∀ k, ¬ Wr (fun b => ms[b]?) (startH gs) k :=
  start_sim h.len h.ro h.obj

theorem calls_lay {C : Callees} {G : Nat} (hC : CalleesOk P G C) (hsp : ∀ b, sp b = true) {n f : Nat} {gs : List AObj} {ms : List Emb} (hs : St w gs ms) (hG : GOk G fun b => ms[b]?) {ts : List TypeId} {vs : List Value} {ds : List (DataW X)} {ps : List MemPlace}
    (hT : (ts.all fun t => layT P n t) = true) (hv : ∀ (j : Nat) t v, ts[j]? = some t → vs[j]? = some v → Value.okWide P w r b0 t v) (hA : DataW.TrodAll enc P w base sp held ts vs ds ps)
    (law : ∀ gs' as, ArgsOk P (gs ++ gs') n ts as → wpF C f as (startH (gs ++ gs')) fun v _ => v = .bool true) :
    Calls P f vs.toArray w fun e w' => e = .returned (.bool true) ∧ Below w.heap.size w w' := by
  rw [List.all_eq_true] at hT
  obtain ⟨gs', ms', as, hs', hr, ho⟩ := args_lay hsp ts vs ds ps gs ms hs hT hv hA
  have h1 := law gs' as ho
  obtain ⟨hsim, hw⟩ := hs'.sim
  refine ((hC (.fn f) as _ _ h1 (fun b => (ms ++ ms')[b]?) vs w (hG.mono (phi_le _ _)) hr hsim).2).mono fun e w' ⟨v, H', hv, φ', v', he, hvr, hst⟩ => ?_
  subst hv
  cases hvr
  exact ⟨he, hst.below hw⟩

theorem OkA.bytes {gs : List AObj} {n : Nat} {t e : TypeId} {vs : List Value} (hu : P.underlying t = some (.slice e)) (he : P.underlying e = some (.int .u8)) (h1 : P.cellsOf e = 1) (h : OkA P gs (n + 2) t vs) :
    ∃ (v : Value) (l : List Int) (r : List Nat), vs = [v] ∧ RdS (startH gs) 1 v (l.map (.int .u8 ·)) r ∧ (∀ b ∈ r, b < gs.length) ∧ ∀ x ∈ l, (0 : Int) ≤ x ∧ x ≤ 255 := by
  unfold OkA at h
  rw [hu] at h
  rcases h with rfl | ⟨b, c, rfl, _⟩ | ⟨b, l, c, cells, rfl, hlc, _, hg, hl, hc⟩
  · exact ⟨_, [], [], rfl, .nil, by simp, by simp⟩
  · exact ⟨_, [], [], rfl, .empty _, by simp, by simp⟩
  · rw [h1] at hl hc
    have hb := (List.getElem?_eq_some_iff.1 hg).1
    have hcell : ∀ i, i < cells.length → ∃ x : Int, cells[i]? = some (.int .u8 x) ∧ 0 ≤ x ∧ x ≤ 255 := by
      intro i hi
      have h2 := hc i (by omega)
      unfold OkA at h2
      rw [he] at h2
      obtain ⟨x, h3, h4⟩ := h2
      have h5 := congrArg (fun z => z[0]?) h3
      simp only [List.getElem?_cons_zero, Nat.mul_one] at h5
      rw [List.getElem?_take, if_pos (by omega), List.getElem?_drop, Nat.add_zero] at h5
      refine ⟨x, h5, ?_⟩
      simp [Lit.wf, IntKind.min, IntKind.max, IntKind.signed, IntKind.bits] at h4
      omega
    obtain ⟨xs, hxs, hrange⟩ : ∃ xs : List Int, cells = xs.map (.int .u8 ·) ∧ ∀ x ∈ xs, (0 : Int) ≤ x ∧ x ≤ 255 := by
      clear hl hc hg hlc
      induction cells with
      | nil => exact ⟨[], rfl, by simp⟩
      | cons a cells ih =>
        obtain ⟨x, hx, h0⟩ := hcell 0 (by simp)
        simp only [List.getElem?_cons_zero, Option.some.injEq] at hx
        obtain ⟨xs, h2, h3⟩ := ih fun i hi => by simpa using hcell (i + 1) (by simpa using hi)
        exact ⟨x :: xs, by simp [hx, h2], fun y hy => by rcases List.mem_cons.1 hy with rfl | hy; exact h0; exact h3 y hy⟩
    refine ⟨_, xs, [b], rfl, ?_, by simpa using hb, hrange⟩
    have := RdS.blk (H := startH gs) (es := 1) (b := b) (off := 0) (l := l) (c := c) (cs := cells) (e := 0) (ro := true) (by rw [get_startH, List.getD_eq_getElem?_getD, hg]; rfl) (by omega) (.inl rfl) hlc
    rw [List.drop_zero, List.take_of_length_le (by omega), hxs] at this
    exact this
end
end Go.E
