/-
  THE EVALUATOR, PART F: comparisons, arithmetic, maps, copy, conversions.
-/
import Derived.Test.YtlkgacbholklkaaEwE
import Derived.ChangeKeysEq
set_option linter.unusedSimpArgs false
set_option linter.unusedVariables false
namespace Go.E
open Go
variable {P : Program}
/-! ### comparisons -/
theorem run_partN {t : TypeId} {d : TypeDesc} {n : Nat} (hd : P.underlying t = some d) (hn : sizeI P t = some n) (cs : Array Value) (off : Nat) {v : Value}
    (h : partN cs.toList off (if isAggD d then some n else none) = some v) (w : World) :
    (part t cs off).run P w = .ok v w := by
  simp only [part, Sem.run_bind, run_isAgg' hd, Result.andThen]
  by_cases ha : isAggD d = true
  · simp only [ha, if_true, partN] at h ⊢
    split at h
    case isFalse => cases h
    cases h
    simp only [Sem.run_bind, run_sizeOf' hn, Result.andThen, Sem.run_pure]
    congr 2
    apply Array.ext'
    simp [List.drop_take]
  · simp only [ha, partN] at h ⊢
    have : cs[off]? = some v := by simpa using h
    simp [this]

theorem partN_rel {φ : Phi} {cs cs' : List Value} (h : VRs φ cs cs') (off : Nat) (sz : Option Nat) {v : Value} (hv : partN cs off sz = some v) : ∃ v', partN cs' off sz = some v' ∧ VR φ v v' := by
  cases sz with
  | none => exact h.get off v hv
  | some n =>
    simp only [partN] at hv ⊢
    split at hv
    case isFalse => cases hv
    rename_i hle
    cases hv
    rw [if_pos (by have := h.length; omega)]
    exact ⟨_, rfl, .agg ((h.drop off).take n)⟩

theorem eqBasic_rel {φ : Phi} {d : TypeDesc} {x x' y y' : Value} (hx : VR φ x x') (hy : VR φ y y') {b : Bool} (h : eqBasic d x y = some b) : eqBasic d x' y' = some b := by
  cases hx <;> cases hy <;> cases d <;> simp_all [eqBasic]

theorem eqPart_rel {φ : Phi} {eqv : EqT → Value → Value → Option Bool} (ih : ∀ e x x' y y' b, VR φ x x' → VR φ y y' → eqv e x y = some b → eqv e x' y' = some b) {xs xs' ys ys' : List Value} (hx : VRs φ xs xs') (hy : VRs φ ys ys') :
    ∀ (ps : List (Nat × Option Nat × EqT)) (b : Bool), eqPart eqv xs ys ps = some b → eqPart eqv xs' ys' ps = some b
  | [], b, h => by simpa [eqPart] using h
  | (off, sz, e) :: r, b, h => by
    simp only [eqPart] at h
    split at h
    case h_2 => cases h
    rename_i x y h1 h2
    obtain ⟨x', h3, h4⟩ := partN_rel hx off sz h1
    obtain ⟨y', h5, h6⟩ := partN_rel hy off sz h2
    simp only [eqPart, h3, h5]
    split at h
    · rename_i h7; rw [ih _ _ _ _ _ _ h4 h6 h7]; exact eqPart_rel ih hx hy r b h
    · rename_i h7; rw [ih _ _ _ _ _ _ h4 h6 h7]; exact h
    · cases h

theorem eqItemsN_rel {φ : Phi} {eqv : Value → Value → Option Bool} (ih : ∀ x x' y y' b, VR φ x x' → VR φ y y' → eqv x y = some b → eqv x' y' = some b) {es : Nat} {sz : Option Nat} {xs xs' ys ys' : List Value} (hx : VRs φ xs xs') (hy : VRs φ ys ys') :
    ∀ (ps : List Nat) (b : Bool), eqItemsN eqv es sz xs ys ps = some b → eqItemsN eqv es sz xs' ys' ps = some b
  | [], b, h => by simpa [eqItemsN] using h
  | i :: r, b, h => by
    simp only [eqItemsN] at h
    split at h
    case h_2 => cases h
    rename_i x y h1 h2
    obtain ⟨x', h3, h4⟩ := partN_rel hx _ sz h1
    obtain ⟨y', h5, h6⟩ := partN_rel hy _ sz h2
    simp only [eqItemsN, h3, h5]
    split at h
    · rename_i h7; rw [ih _ _ _ _ _ h4 h6 h7]; exact eqItemsN_rel ih hx hy r b h
    · rename_i h7; rw [ih _ _ _ _ _ h4 h6 h7]; exact h
    · cases h

theorem eqN_rel {φ : Phi} : ∀ (d : Nat) (e : EqT) (x x' y y' : Value) (b : Bool), VR φ x x' → VR φ y y' → eqN d e x y = some b → eqN d e x' y' = some b
  | 0, _, _, _, _, _, _, _, _, h => by simp [eqN] at h
  | d + 1, .basic k, x, x', y, y', b, hx, hy, h => by
    simp only [eqN] at h ⊢
    exact eqBasic_rel hx hy h
  | d + 1, .parts ps, x, x', y, y', b, hx, hy, h => by
    cases hx <;> cases hy <;> simp only [eqN] at h <;> first | cases h | skip
    rename_i h1 _ _ h2
    exact eqPart_rel (fun e x x' y y' b => eqN_rel d e x x' y y' b) h1 h2 ps b h
  | d + 1, .arr n es sz e, x, x', y, y', b, hx, hy, h => by
    cases hx <;> cases hy <;> simp only [eqN] at h <;> first | cases h | skip
    rename_i h1 _ _ h2
    exact eqItemsN_rel (fun x x' y y' b => eqN_rel d e x x' y y' b) h1 h2 _ b h

theorem run_eqBasic {t : TypeId} {d : TypeDesc} (hd : P.underlying t = some d) {x y : Value} {b : Bool} (h : eqBasic d x y = some b) (n : Nat) (w : World) : (Op.equalIn (n + 1) t x y).run P w = .ok b w := by
  unfold eqBasic at h
  split at h <;> first | (cases h; done) | (cases h; simp [Op.equalIn, run_underlying hd]; done) | (split at h <;> cases h; rename_i hk; subst hk; simp [Op.equalIn, run_underlying hd])

theorem run_eqFields {n : Nat} {f : TypeId → Option EqT} {m : Nat} (ih : ∀ t e x y b w, f t = some e → eqN m e x y = some b → (Op.equalIn n t x y).run P w = .ok b w) (xs ys : Array Value) :
    ∀ (fs : List Field) (ps : List (Nat × Option Nat × EqT)) (b : Bool) (w : World), eqFields P f fs = some ps → eqPart (eqN m) xs.toList ys.toList ps = some b → (Op.eqFields n xs ys fs).run P w = .ok b w
  | [], ps, b, w, h, g => by simp [eqFields] at h; subst h; simp [eqPart] at g; subst g; rfl
  | x :: r, ps, b, w, h, g => by
    simp only [eqFields] at h
    split at h
    case isTrue => cases h
    rename_i hname
    split at h
    case h_2 => cases h
    rename_i d sz hd hsz
    simp only [Option.bind_eq_some_iff, Option.map_eq_some_iff] at h
    obtain ⟨e, h1, ps', h2, rfl⟩ := h
    simp only [eqPart] at g
    split at g
    case h_2 => cases g
    rename_i u v g1 g2
    have p1 := run_partN hd hsz xs x.offset g1 w
    have p2 := run_partN hd hsz ys x.offset g2 w
    simp only [Op.eqFields, ne_eq, hname, not_false_eq_true, if_true, Sem.run_bind, p1, p2, Result.andThen_ok]
    split at g
    · rename_i g3
      simp only [ih _ _ _ _ _ w h1 g3, Result.andThen_ok, Bool.not_true, Bool.false_eq_true, if_false]
      exact run_eqFields ih xs ys r ps' b w h2 g
    · rename_i g3
      cases g
      simp [ih _ _ _ _ _ w h1 g3]
    · cases g

theorem run_eqItems {n : Nat} {t : TypeId} {d : TypeDesc} {es m : Nat} {e : EqT} (hd : P.underlying t = some d) (hn : sizeI P t = some es) (ih : ∀ x y b w, eqN m e x y = some b → (Op.equalIn n t x y).run P w = .ok b w) (xs ys : Array Value) :
    ∀ (is : List Nat) (b : Bool) (w : World), eqItemsN (eqN m e) es (if isAggD d then some es else none) xs.toList ys.toList is = some b → (Op.eqItems n t es xs ys is).run P w = .ok b w
  | [], b, w, g => by simp [eqItemsN] at g; subst g; rfl
  | i :: r, b, w, g => by
    simp only [eqItemsN] at g
    split at g
    case h_2 => cases g
    rename_i u v g1 g2
    have p1 := run_partN hd hn xs (i * es) g1 w
    have p2 := run_partN hd hn ys (i * es) g2 w
    simp only [Op.eqItems, Sem.run_bind, p1, p2, Result.andThen_ok]
    split at g
    · rename_i g3
      simp only [ih _ _ _ w g3, Result.andThen_ok, Bool.not_true, Bool.false_eq_true, if_false]
      exact run_eqItems hd hn ih xs ys r b w g
    · rename_i g3
      cases g
      simp [ih _ _ _ w g3]
    · cases g

theorem run_eqN : ∀ (m : Nat) (t : TypeId) (e : EqT) (n : Nat) (x y : Value) (b : Bool) (w : World), eqTOf P m t = some e → eqN m e x y = some b → (Op.equalIn (m + n) t x y).run P w = .ok b w
  | 0, _, _, _, _, _, _, _, h, _ => by simp [eqTOf] at h
  | m + 1, t, e, n, x, y, b, w, h, g => by
    have ih := fun t e x y b w h1 h2 => run_eqN m t e n x y b w h1 h2
    rw [show m + 1 + n = (m + n) + 1 by omega]
    simp only [eqTOf] at h
    split at h
    all_goals try (rename_i hd; cases h; exact run_eqBasic hd g _ w)
    · rename_i k et hd
      split at h
      · cases h
      split at h
      case h_2 => cases h
      rename_i de es hde hes
      simp only [Option.map_eq_some_iff] at h
      obtain ⟨e', h1, rfl⟩ := h
      cases x <;> cases y <;> simp only [eqN] at g <;> first | cases g | skip
      rename_i xs ys
      obtain ⟨i, hi⟩ : ∃ i, P.info? et = some i := by
        unfold sizeI at hes
        cases hi : P.info? et with
        | none => simp [hi] at hes
        | some i => exact ⟨i, rfl⟩
      have hes' : P.cellsOf et = es := by simp [sizeI, hi] at hes; simp [Program.cellsOf, hi, hes]
      rw [run_equalIn_array w (m + n) xs ys hd hi, hes']
      exact run_eqItems hde hes (fun x y b w => ih et e' x y b w h1) xs ys _ b w g
    · rename_i fs hd
      split at h
      · cases h
      rename_i hc
      simp only [Bool.or_eq_true, not_or, Bool.not_eq_true] at hc
      simp only [Option.map_eq_some_iff] at h
      obtain ⟨ps, h1, rfl⟩ := h
      cases x <;> cases y <;> simp only [eqN] at g <;> first | cases g | skip
      rename_i xs ys
      have hf : P.fieldsOf t = fs := by simp [Program.fieldsOf, hd]
      rw [run_equalIn_struct w (m + n) t xs ys (by rw [hf]; exact hd) hc.1, hf]
      exact run_eqFields (fun t e x y b w => ih t e x y b w) xs ys _ ps b w h1 g
    · cases h

end Go.E
