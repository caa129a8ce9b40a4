/-
  THE EVALUATOR, PART ZM: slicing with a bound for the capacity; deleting: what is left.
-/
import Derived.Test.YtamcfhhcmjagnaaEhZl
set_option linter.unusedSimpArgs false
set_option linter.unusedVariables false
namespace Go.E
open Go
def sv3C (a : Option Addr) (c i m : Nat) : Nat := match a with
  | none => 0
  | some _ => if c = 0 then 0 else m - i
theorem RdS.sv3 {H : AHeap} {es : Nat} {a : Option Addr} {l c i h m : Nat} {xs : List Value} {o : List Nat} (hO : RdS H es (.slice a l c) xs o) (hih : i ≤ h) (hhl : h ≤ l) (hhm : h ≤ m) (hmc : m ≤ c) :
    RdS H es (.slice (svA es a c i) (h - i) (sv3C a c i m)) ((xs.drop (i * es)).take ((h - i) * es)) o := by
  cases hO with
  | nil =>
    have e : h - i = 0 := by omega
    simp only [svA, sv3C, e, List.drop_nil, List.take_nil]
    exact .nil
  | empty a =>
    have e : h - i = 0 := by omega
    simp only [svA, sv3C, e, List.drop_nil, List.take_nil, if_true]
    exact .empty a
  | @blk b off l c cs e ro hg hc he hl =>
    by_cases h0 : c = 0
    · subst h0
      have e2 : l = 0 := by omega
      subst e2
      have e4 : h = 0 := by omega
      subst e4
      have e3 : i = 0 := by omega
      subst e3
      have h4 := RdS.blk (l := 0) (c := 0) (H := H) (es := es) (b := b) (off := off) hg (by omega) he (Nat.le_refl _)
      simpa [svA, sv3C] using h4
    · have hm1 := Nat.sub_mul h i es
      have hm2 := Nat.mul_le_mul_right es hih
      have hm3 := Nat.mul_le_mul_right es hhl
      have h4 := RdS.blk (H := H) (es := es) (b := b) (off := off + i * es) (l := h - i) (c := m - i) hg (by omega) he (by omega)
      have e : (List.drop (i * es) ((cs.drop off).take (l * es))).take ((h - i) * es) = (cs.drop (off + i * es)).take ((h - i) * es) := by
        rw [List.drop_take, List.take_take, List.drop_drop]
        congr 1
        omega
      rw [e]
      simp only [svA, sv3C, if_neg h0]
      exact h4
theorem sv3_eop {T : FEnv} {H : AHeap} {es : Nat} {x : NOpd} {lo hi mx : Option NOpd} {a : Option Addr} {l c i h m : Nat} {xs : List Value} {o : List Nat} (hx : x.evF T = .slice a l c) (hO : RdS H es (.slice a l c) xs o)
    (hb : sliceBnds l c (lo.map (·.evF T)) (hi.map (·.evF T)) (mx.map (·.evF T)) = some (i, h, m)) (hih : i ≤ h) (hhl : h ≤ l) : eop ((NOp.slice es x lo hi mx).sub T) [] H = some (.val (.slice (svA es a c i) (h - i) (sv3C a c i m)) H) := by
  cases hO with
  | nil =>
    have e : h - i = 0 := by omega
    simp only [NOp.sub, eop, ev_subF, hx, subOpt_ev', hb, Option.bind_some, svA, sv3C, e]
  | empty a =>
    have e : h - i = 0 := by omega
    simp only [NOp.sub, eop, ev_subF, hx, subOpt_ev', hb, Option.bind_some, svA, sv3C, e, if_true]
  | @blk b off l c cs e ro hg hc he hl =>
    by_cases h0 : c = 0
    · have e : h - i = 0 := by omega
      simp only [NOp.sub, eop, ev_subF, hx, subOpt_ev', hb, Option.bind_some, svA, sv3C, e, if_pos h0]
    · simp only [NOp.sub, eop, ev_subF, hx, subOpt_ev', hb, Option.bind_some, svA, sv3C, if_neg h0, hg, if_pos he]
section
variable {C : Nat → Callee} {T : FEnv} {B H : AHeap} {K : FEnv → AHeap → Prop} {d : Nat} {g : Option (Nat × Bool)} {As : List Asn}
theorem op1_slice3D {es : Nat} {x : NOpd} {lo hi mx : Option NOpd} {a : Option Addr} {l c i h m : Nat} {xs : List Value} (hw : wantedF g T = true) (hx : x.evF T = .slice a l c) (hd : RD B As es (.slice a l c) xs) (hS : S B H As)
    (hb : sliceBnds l c (lo.map (·.evF T)) (hi.map (·.evF T)) (mx.map (·.evF T)) = some (i, h, m)) (hih : i ≤ h) (hhl : h ≤ l) (hhm : h ≤ m) (hmc : m ≤ c)
    (kk : ∀ a' c', RD B As es (.slice a' (h - i) c') ((xs.drop (i * es)).take ((h - i) * es)) → (∀ (Tf : FEnv) H2, S B H2 As → Tf d = .slice a' (h - i) c' → chkF1 (.slice es x lo hi mx) d Tf T H2) → K (upd T d (.slice a' (h - i) c')) H) : op1 C ⟨some d, .slice es x lo hi mx, g⟩ T H K := by
  obtain ⟨r, hr, hrl⟩ := hd H hS
  refine op1_val hw (sv3_eop hx hr hb hih hhl) (kk (svA es a c i) (sv3C a c i m) (fun H2 hS2 => ?_) fun Tf H2 hS2 he => ?_)
  · obtain ⟨r2, hr2, hrl2⟩ := hd H2 hS2
    exact ⟨r2, hr2.sv3 hih hhl hhm hmc, hrl2⟩
  · obtain ⟨r2, hr2, hrl2⟩ := hd H2 hS2
    refine ⟨H2, ?_⟩
    rw [sv3_eop hx hr2 hb hih hhl, he]
end
theorem op1_min3 {C : Nat → Callee} {T : FEnv} {H : AHeap} {K : KO} {x y z : NOpd} {i : IntKind} {a b c : Int} {d : Nat} {g : Option (Nat × Bool)} (hw : wantedF g T = true) (hx : x.evF T = .int i a) (hy : y.evF T = .int i b) (hz : z.evF T = .int i c) (k : K (upd T d (.int i (min (min a b) c))) H) : op1 C ⟨some d, .minmax false [x, y, z], g⟩ T H K := by
  refine op1_val hw ?_ k
  have e1 : (if b < a then b else a) = min a b := by omega
  have e2 : (if c < min a b then c else min a b) = min (min a b) c := by omega
  simp only [NOp.sub, eop, ev_subF, subs, List.map_cons, List.map_nil, hx, hy, hz, minmaxL, minmax2, if_true, Option.bind_some, Option.map_some, Bool.false_eq_true, if_false, e1, e2]
theorem bnds_cap {l c : Nat} {i j : IntKind} {n : Int} (h0 : 0 ≤ n) (h1 : n ≤ c) : sliceBnds l c none (some (.int i n)) (some (.int j n)) = some (0, n.toNat, n.toNat) := by
  have e1 : (0 : Int) ≤ n ∧ n ≤ c := ⟨h0, h1⟩
  simp only [sliceBnds, bnd, Option.bind_some]
  rw [if_pos e1, Option.bind_some, if_pos (by omega), Option.bind_some]
  simp
theorem bnds_all3 {l c : Nat} {i j k : IntKind} {n m o : Int} (h0 : 0 ≤ n) (h1 : n ≤ m) (h2 : m ≤ o) (h3 : o ≤ c) : sliceBnds l c (some (.int i n)) (some (.int j m)) (some (.int k o)) = some (n.toNat, m.toNat, o.toNat) := by
  have e1 : (0 : Int) ≤ o ∧ o ≤ c := by omega
  simp only [sliceBnds, bnd, Option.bind_some]
  rw [if_pos e1, Option.bind_some, if_pos (by omega), Option.bind_some, if_pos (by omega)]
  rfl
end Go.E
