/-
  THE EVALUATOR, PART G: arithmetic, maps, copy, conversions, cuts.
-/
import Derived.Test.YtlkgacbholklkaaEwF
set_option linter.unusedSimpArgs false
set_option linter.unusedVariables false
namespace Go.E
open Go
variable {P : Program}
def plainV : Value → Bool
  | .bool _ | .int _ _ | .string _ => true
  | _ => false

theorem plainV_rel {v : Value} (h : plainV v = true) (φ : Phi) : VR φ v v := by
  cases v <;> simp [plainV] at h <;> constructor

theorem eqTOf_agg {m n : Nat} {t : TypeId} {e : EqT} {xs ys : Array Value} (h1 : eqTOf P (m + 1) t = some e) (h2 : (eqN (n + 1) e (.agg xs) (.agg ys)).isSome = true) : P.eqGuardType P.depth t = false := by
  simp only [eqTOf] at h1
  split at h1
  all_goals try (cases h1; simp [eqN, eqBasic] at h2; done)
  · split at h1
    · cases h1
    · rename_i hc; exact Bool.eq_false_iff.2 hc
  · split at h1
    · cases h1
    · rename_i hc
      cases hq : P.eqGuardType P.depth t with
      | false => rfl
      | true => rw [hq, Bool.or_true] at hc; exact absurd rfl hc
  · cases h1

theorem eqN_nilIface {n : Nat} {e : EqT} : eqN (n + 1) e .nilIface .nilIface = none := by
  cases e with
  | basic d => cases d <;> rfl
  | parts ps => rfl
  | arr n es sz e => rfl

theorem eqGuard_cmp {t : TypeId} {a b : Operand} {x y : Value} {op : BinOp} (ho : op = .eql ∨ op = .neq) {e : EqT} (h1 : eqTOf P 10 t = some e) (h2 : (eqN 10 e x y).isSome = true) (w : World) :
    (eqGuard op t a b x y).run P w = .ok () w := by
  cases x with
  | agg xs =>
    cases y with
    | agg ys => exact run_eqGuard_agg w op t a b xs ys (eqTOf_agg (m := 9) (n := 9) h1 h2)
    | _ => rcases ho with rfl | rfl <;> rfl
  | nilIface =>
    cases y with
    | nilIface => rw [eqN_nilIface (n := 9)] at h2; cases h2
    | _ => rcases ho with rfl | rfl <;> rfl
  | _ => rcases ho with rfl | rfl <;> rfl

theorem eqGuard_int {op : BinOp} {t : TypeId} {a b : Operand} {k : IntKind} {n : Int} {y : Value} : eqGuard op t a b (.int k n) y = pure () := by cases op <;> rfl
theorem eqGuard_str {op : BinOp} {t : TypeId} {a b : Operand} {s : ByteArray} {y : Value} : eqGuard op t a b (.string s) y = pure () := by cases op <;> rfl

theorem binInt_run {op : BinOp} {k : IntKind} {a b : Int} {v : Value} (h1 : op ≠ .shl) (h2 : op ≠ .shr) (h : binInt op k a b = some v) (t : TypeId) (w : World) : plainV v = true ∧ (binOp op t (.int k a) (.int k b)).run P w = .ok v w := by
  cases op
  case shl => exact absurd rfl h1
  case shr => exact absurd rfl h2
  case quo =>
    simp only [binInt] at h
    split at h
    · cases h
    · rename_i hb; cases h; exact ⟨rfl, by simp [binOp, Op.intDiv, hb]⟩
  case rem =>
    simp only [binInt] at h
    split at h
    · cases h
    · rename_i hb; cases h; exact ⟨rfl, by simp [binOp, Op.intDiv, hb]⟩
  all_goals (simp only [binInt] at h; first | (cases h; exact ⟨rfl, by simp [binOp, Op.intArith, Op.intBits, Op.intCmp]⟩) | cases h)

theorem binStr_run {op : BinOp} {a b : ByteArray} {v : Value} (h : binStr op a b = some v) (t : TypeId) (w : World) : plainV v = true ∧ (binOp op t (.string a) (.string b)).run P w = .ok v w := by
  cases op
  case add =>
    simp only [binStr] at h
    split at h
    case isFalse => cases h
    rename_i hb
    cases h
    refine ⟨rfl, ?_⟩
    simp only [binOp, Op.stringOp]
    rw [if_neg (by simp [IntKind.max, IntKind.signed, IntKind.bits]; omega)]
    rfl
  all_goals (simp only [binStr] at h; first | (cases h; exact ⟨rfl, by simp [binOp, Op.stringOp]⟩) | cases h)

theorem binCmp_run {op : BinOp} {e : EqT} {x y : Value} {r : Bool} (ho : op = .eql ∨ op = .neq) {t : TypeId} (he : eqTOf P 10 t = some e) (hr : eqN 10 e x y = some r)
    (hni : ∀ k a k' b, ¬ (x = .int k a ∧ y = .int k' b)) (hns : ∀ a b, ¬ (x = .string a ∧ y = .string b)) (w : World) :
    (binOp op t x y).run P w = .ok (.bool (if op = .eql then r else !r)) w := by
  have hq := run_eqN (P := P) 10 t e 9990 x y r w he hr
  have hfl : ∀ k a, x ≠ .float k a := by
    rintro k a rfl
    cases e with
    | basic d => cases d <;> cases hr
    | parts ps => cases hr
    | arr n es sz e => cases hr
  have hcx : ∀ k a b, x ≠ .complex k a b := by
    rintro k a b rfl
    cases e with
    | basic d => cases d <;> cases hr
    | parts ps => cases hr
    | arr n es sz e => cases hr
  rcases ho with rfl | rfl
  · have : binOp .eql t x y = (do pure (.bool (← Op.equal t x y))) := by
      cases x <;> first | rfl | skip
      case int k a => cases y <;> first | rfl | exact absurd ⟨rfl, rfl⟩ (hni _ _ _ _)
      case string a => cases y <;> first | rfl | exact absurd ⟨rfl, rfl⟩ (hns _ _)
      case float k a => exact absurd rfl (hfl _ _)
      case complex k a b => exact absurd rfl (hcx _ _ _)
    rw [this]
    simp only [Sem.run_bind, Op.equal, Op.maxDepth, hq, Result.andThen_ok, if_true]
    rfl
  · have : binOp .neq t x y = (do pure (.bool (!(← Op.equal t x y)))) := by
      cases x <;> first | rfl | skip
      case int k a => cases y <;> first | rfl | exact absurd ⟨rfl, rfl⟩ (hni _ _ _ _)
      case string a => cases y <;> first | rfl | exact absurd ⟨rfl, rfl⟩ (hns _ _)
      case float k a => exact absurd rfl (hfl _ _)
      case complex k a b => exact absurd rfl (hcx _ _ _)
    rw [this]
    simp only [Sem.run_bind, Op.equal, Op.maxDepth, hq, Result.andThen_ok]
    rfl

theorem eqN_cxl {n : Nat} {e : EqT} {k : FloatKind} {a b : Nat} {y : Value} : eqN n e (.complex k a b) y = none := by
  cases n with
  | zero => rfl
  | succ n =>
    cases e with
    | basic d => cases d <;> rfl
    | parts ps => rfl
    | arr n es sz e => rfl

theorem eqN_cxr {n : Nat} {e : EqT} {k : FloatKind} {a b : Nat} {x : Value} : eqN n e x (.complex k a b) = none := by
  cases n with
  | zero => rfl
  | succ n =>
    cases e with
    | basic d =>
      cases d <;> cases x <;> first
        | rfl
        | (rename_i o; cases o <;> rfl)
        | (rename_i o _ _; cases o <;> rfl)
    | parts ps => cases x <;> rfl
    | arr n es sz e => cases x <;> rfl

theorem eqN_ncx {φ : Phi} {e : EqT} {x x' y y' : Value} {r : Bool} (hr : eqN 10 e x y = some r) (hx : VR φ x x') (hy : VR φ y y') :
    ((∃ k a k' b, x' = .int k a ∧ y' = .int k' b) → ∃ k a k' b, x = .int k a ∧ y = .int k' b) ∧ ((∃ a b, x' = .string a ∧ y' = .string b) → ∃ a b, x = .string a ∧ y = .string b) := by
  constructor
  · rintro ⟨k, a, k', b, rfl, rfl⟩
    cases hx with
    | int =>
      cases hy with
      | int => exact ⟨_, _, _, _, rfl, rfl⟩
      | junk => rw [eqN_cxr] at hr; cases hr
    | junk => rw [eqN_cxl] at hr; cases hr
  · rintro ⟨a, b, rfl, rfl⟩
    cases hx with
    | str =>
      cases hy with
      | str => exact ⟨_, _, rfl, rfl⟩
      | junk => rw [eqN_cxr] at hr; cases hr
    | junk => rw [eqN_cxl] at hr; cases hr

theorem bin_rel {φ : Phi} {op : BinOp} {e : EqT} {x x' y y' v : Value} (hx : VR φ x x') (hy : VR φ y y') (h : binN op e x y = some v) {t : TypeId} (he : (op = .eql ∨ op = .neq) → eqTOf P 10 t = some e) (a b : Operand) (w : World) :
    plainV v = true ∧ (do eqGuard op t a b x' y'; binOp op t x' y').run P w = .ok v w := by
  unfold binN at h
  split at h
  · rename_i k c k' d
    cases hx; cases hy
    simp only [eqGuard_int, Sem.run_bind, Sem.run_pure, Result.andThen_ok]
    split at h
    · split at h
      · cases h
      · rename_i hb; cases h; exact ⟨rfl, by simp [binOp, Op.shift, hb]⟩
    · split at h
      · cases h
      · rename_i hb; cases h; exact ⟨rfl, by simp [binOp, Op.shift, hb]⟩
    · rename_i hs1 hs2
      split at h
      case isFalse => cases h
      rename_i hk
      subst hk
      exact binInt_run hs1 hs2 h t w
  · rename_i c d
    cases hx; cases hy
    simp only [eqGuard_str, Sem.run_bind, Sem.run_pure, Result.andThen_ok]
    exact binStr_run h t w
  · rename_i hn1 hn2
    have hni : ∀ r, eqN 10 e x y = some r → ∀ k a k' b, ¬ (x' = .int k a ∧ y' = .int k' b) := by
      rintro r hr k a k' b hc
      obtain ⟨k, a, k', b, rfl, rfl⟩ := (eqN_ncx hr hx hy).1 ⟨_, _, _, _, hc⟩
      exact hn1 _ _ _ _ rfl rfl
    have hns : ∀ r, eqN 10 e x y = some r → ∀ a b, ¬ (x' = .string a ∧ y' = .string b) := by
      rintro r hr a b hc
      obtain ⟨a, b, rfl, rfl⟩ := (eqN_ncx hr hx hy).2 ⟨_, _, hc⟩
      exact hn2 _ _ rfl rfl
    split at h
    · simp only [Option.map_eq_some_iff] at h
      obtain ⟨r, hr, rfl⟩ := h
      replace hni := hni r hr
      replace hns := hns r hr
      have hr' := eqN_rel 10 e x x' y y' r hx hy hr
      have hg := eqGuard_cmp (P := P) (a := a) (b := b) (.inl rfl) (he (.inl rfl)) (by rw [hr']; rfl) w
      have := binCmp_run (P := P) (.inl rfl) (he (.inl rfl)) hr' hni hns w
      exact ⟨rfl, by simp only [Sem.run_bind, hg, Result.andThen_ok, this, if_true]⟩
    · simp only [Option.map_eq_some_iff] at h
      obtain ⟨r, hr, rfl⟩ := h
      replace hni := hni r hr
      replace hns := hns r hr
      have hr' := eqN_rel 10 e x x' y y' r hx hy hr
      have hg := eqGuard_cmp (P := P) (a := a) (b := b) (.inr rfl) (he (.inr rfl)) (by rw [hr']; rfl) w
      have := binCmp_run (P := P) (.inr rfl) (he (.inr rfl)) hr' hni hns w
      exact ⟨rfl, by simp only [Sem.run_bind, hg, Result.andThen_ok, this]; rfl⟩
    · cases h

theorem un_rel {φ : Phi} {op : UnOp} {x x' v : Value} (hx : VR φ x x') (h : unN op x = some v) (w : World) : plainV v = true ∧ (Op.unary op x').run P w = .ok v w := by
  unfold unN at h
  split at h
  · cases hx; cases h; exact ⟨rfl, by simp [Op.unary, Op.intArith]⟩
  · cases hx; cases h; exact ⟨rfl, by simp [Op.unary, Op.intBits]⟩
  · cases hx; cases h; exact ⟨rfl, by simp [Op.unary]⟩
  · cases h

theorem max_rel {φ : Phi} : ∀ {xs xs' : List Value} {x x' v : Value}, VRs φ xs xs' → VR φ x x' → minmaxL true x xs = some v → ∀ w, ∃ v', (xs'.foldlM Builtin.max2 x').run P w = .ok v' w ∧ VR φ v v'
  | [], _, x, x', v, .nil, hx, h, w => by
    simp [minmaxL] at h; subst h; exact ⟨x', rfl, hx⟩
  | y :: r, _, x, x', v, .cons hy hr, hx, h, w => by
    simp only [minmaxL, Option.bind_eq_some_iff] at h
    obtain ⟨z, h1, h2⟩ := h
    unfold minmax2 at h1
    split at h1
    case h_2 => cases h1
    split at h1
    case isFalse => cases h1
    rename_i hk
    subst hk
    cases h1
    cases hx; cases hy
    obtain ⟨v', h3, h4⟩ := max_rel hr (.int _ _) h2 w
    exact ⟨v', by simp only [List.foldlM_cons, Sem.run_bind, Builtin.max2, Sem.run_pure, Result.andThen_ok]; simpa using h3, h4⟩

theorem min_rel {φ : Phi} : ∀ {xs xs' : List Value} {x x' v : Value}, VRs φ xs xs' → VR φ x x' → minmaxL false x xs = some v → ∀ w, ∃ v', (xs'.foldlM Builtin.min2 x').run P w = .ok v' w ∧ VR φ v v'
  | [], _, x, x', v, .nil, hx, h, w => by
    simp [minmaxL] at h; subst h; exact ⟨x', rfl, hx⟩
  | y :: r, _, x, x', v, .cons hy hr, hx, h, w => by
    simp only [minmaxL, Option.bind_eq_some_iff] at h
    obtain ⟨z, h1, h2⟩ := h
    unfold minmax2 at h1
    split at h1
    case h_2 => cases h1
    split at h1
    case isFalse => cases h1
    rename_i hk
    subst hk
    cases h1
    cases hx; cases hy
    obtain ⟨v', h3, h4⟩ := min_rel hr (.int _ _) h2 w
    exact ⟨v', by simp only [List.foldlM_cons, Sem.run_bind, Builtin.min2, Sem.run_pure, Result.andThen_ok]; simpa using h3, h4⟩

end Go.E
