/-
  THE EVALUATOR, PART ZB: from a law's own precondition to the row.
-/
import Derived.Test.YtamcfhhcmjagnaaEhZa
set_option linter.unusedSimpArgs false
set_option linter.unusedVariables false
namespace Go.E
open Go Go.ChangeShapes Go.WideShapes Go.ChangeAt Go.RowKit
variable {P : Program}
def aggT (P : Program) (t : TypeId) : Bool := match P.underlying t with | some (.struct _) | some (.array _ _) => true | _ => false
def argV (P : Program) (t : TypeId) (cells : List Value) : Value := if aggT P t then .agg ⟨cells⟩ else cells.headD undef

def ArgsOk (P : Program) (gs : List AObj) (n : Nat) : List TypeId → List Value → Prop
  | [], [] => True
  | t :: ts, a :: as => (∃ cells, a = argV P t cells ∧ OkA P gs n t cells) ∧ ArgsOk P gs n ts as
  | _, _ => False

theorem ArgsOk.mono {gs gs' : List AObj} {n : Nat} : ∀ (ts : List TypeId) (as : List Value), ArgsOk P gs n ts as → ArgsOk P (gs ++ gs') n ts as
  | [], [], _ => trivial
  | [], _ :: _, h => h
  | _ :: _, [], h => h
  | t :: ts, a :: as, ⟨⟨cells, h1, h2⟩, h3⟩ => ⟨⟨cells, h1, OkA.mono _ _ _ h2⟩, ArgsOk.mono ts as h3⟩

theorem cells_one {v : Value} (h : v.oneCell' = true) : v.cells.toList = [v] := by
  cases v <;> first | rfl | (simp [Value.oneCell'] at h)

section
variable {X : Type} {enc : TypeId × Value → X} {w : World} {base : Nat} {sp : Nat → Bool} {held : Bool} {r : Reach} {b0 : Nat}
theorem St.sim {gs : List AObj} {ms : List Emb} (h : St w gs ms) : Sim (fun b => ms[b]?) (startH gs) w ∧ ∀ k, ¬ Wr (fun b => ms[b]?) (startH gs) k :=
  start_sim h.len h.ro h.obj

theorem OkA.bytes {gs : List AObj} {n : Nat} {t e : TypeId} {vs : List Value} (hu : P.underlying t = some (.slice e)) (he : P.underlying e = some (.int .u8)) (h1 : P.cellsOf e = 1) (h : OkA P gs (n + 2) t vs) :
    ∃ (v : Value) (l : List Int) (r : List Nat), vs = [v] ∧ RdS (startH gs) 1 v (l.map (.int .u8 ·)) r ∧ (∀ b ∈ r, b < gs.length) ∧ ∀ x ∈ l, (0 : Int) ≤ x ∧ x ≤ 255 := by
  unfold OkA at h
  rw [hu] at h
  rcases h with rfl | ⟨b, c, rfl, _⟩ | ⟨b, l, c, cells, rfl, hlc, _, hg, hl, hc⟩
  · exact ⟨_, [], [], rfl, .nil, by simp, by simp⟩
  · exact ⟨_, [], [], rfl, .empty _, by simp, by simp⟩
  · rw [h1] at hl hc
    have hb := (List.getElem?_eq_some_iff.1 hg).1
    have hcell : ∀ i, i < cells.length → ∃ x : Int, cells[i]? = some (.int .u8 x) ∧ 0 ≤ x ∧ x ≤ 255 := by
      intro i hi
      have h2 := hc i (by omega)
      unfold OkA at h2
      rw [he] at h2
      obtain ⟨x, h3, h4⟩ := h2
      have h5 := congrArg (fun z => z[0]?) h3
      simp only [List.getElem?_cons_zero, Nat.mul_one] at h5
      rw [List.getElem?_take, if_pos (by omega), List.getElem?_drop, Nat.add_zero] at h5
      refine ⟨x, h5, ?_⟩
      simp [Lit.wf, IntKind.min, IntKind.max, IntKind.signed, IntKind.bits] at h4
      omega
    obtain ⟨xs, hxs, hrange⟩ : ∃ xs : List Int, cells = xs.map (.int .u8 ·) ∧ ∀ x ∈ xs, (0 : Int) ≤ x ∧ x ≤ 255 := by
      clear hl hc hg hlc
      induction cells with
      | nil => exact ⟨[], rfl, by simp⟩
      | cons a cells ih =>
        obtain ⟨x, hx, h0⟩ := hcell 0 (by simp)
        simp only [List.getElem?_cons_zero, Option.some.injEq] at hx
        obtain ⟨xs, h2, h3⟩ := ih fun i hi => by simpa using hcell (i + 1) (by simpa using hi)
        exact ⟨x :: xs, by simp [hx, h2], fun y hy => by rcases List.mem_cons.1 hy with rfl | hy; exact h0; exact h3 y hy⟩
    refine ⟨_, xs, [b], rfl, ?_, by simpa using hb, hrange⟩
    have := RdS.blk (H := startH gs) (es := 1) (b := b) (off := 0) (l := l) (c := c) (cs := cells) (e := 0) (ro := true) (by rw [get_startH, List.getD_eq_getElem?_getD, hg]; rfl) (by omega) (.inl rfl) hlc
    rw [List.drop_zero, List.take_of_length_le (by omega), hxs] at this
    exact this
end
end Go.E
