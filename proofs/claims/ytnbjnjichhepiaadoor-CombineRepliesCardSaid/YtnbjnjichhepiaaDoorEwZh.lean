/-
  THE EVALUATOR, PART ZH: bytes and whole numbers in slices; a slice deleted from in place.
-/
import Derived.Test.YtnbjnjichhepiaaDoorEwZg
set_option linter.unusedSimpArgs false
set_option linter.unusedVariables false
namespace Go.E
open Go
def u8s (l : List Int) : List Value := l.map (.int .u8 ·)
def i64s (l : List Int) : List Value := l.map (.int .i64 ·)
@[simp] theorem u8s_length (l : List Int) : (u8s l).length = l.length := by simp [u8s]
@[simp] theorem i64s_length (l : List Int) : (i64s l).length = l.length := by simp [i64s]
theorem u8s_one (l : List Int) : (u8s l).all (·.oneCell') = true := by simp [u8s, Value.oneCell']
theorem u8s_get {l : List Int} {i : Nat} {v : Value} (h : (u8s l)[i]? = some v) : ∃ x, l[i]? = some x ∧ v = .int .u8 x := by
  simp only [u8s, List.getElem?_map, Option.map_eq_some_iff] at h
  obtain ⟨x, h1, h2⟩ := h
  exact ⟨x, h1, h2.symm⟩
theorem RdS.u1 {H : AHeap} {v : Value} {l : List Int} {o : List Nat} (h : RdS H 1 v (u8s l) o) : ∃ a c, v = .slice a l.length c := by simpa using h.shape1
theorem RdS.le_cap {H : AHeap} {es : Nat} {a : Option Addr} {l c : Nat} {xs : List Value} {r : List Nat} (h : RdS H es (.slice a l c) xs r) : l ≤ c := by
  cases h with
  | nil => omega
  | empty => omega
  | blk hg hc he hl => exact hl
theorem RdS.b2sU {H : AHeap} {v : Value} {l : List Int} {r : List Nat} (h : RdS H 1 v (u8s l) r) : b2sN H v = some (.string ⟨⟨l.map fun n => UInt8.ofNat n.toNat⟩⟩) := by
  generalize hx : u8s l = xs at h
  cases h with
  | nil =>
    have : l = [] := by simpa [u8s] using hx
    subst this; rfl
  | empty a =>
    have : l = [] := by simpa [u8s] using hx
    subst this; rfl
  | @blk b off n c cs e ro hg hc he hl =>
    have hl : n = l.length := by have := congrArg List.length hx; simp at this; omega
    simp only [b2sN]
    split
    · rename_i h0
      have : l = [] := List.eq_nil_of_length_eq_zero (by omega)
      subst this; rfl
    · simp only [AHeap.row, hg]
      rw [Nat.mul_one] at hc hx
      rw [if_pos hc, Option.bind_some, ← hx, show u8s l = l.map (.int .u8 ·) from rfl, toBytes_u8]
      rfl
def svA (es : Nat) (a : Option Addr) (c i : Nat) : Option Addr := match a with
  | none => none
  | some a => if c = 0 then some a else some ⟨a.block, a.off + i * es, none⟩
def svC (a : Option Addr) (c i : Nat) : Nat := match a with
  | none => 0
  | some _ => if c = 0 then 0 else c - i
theorem RdS.sv {H : AHeap} {es : Nat} {a : Option Addr} {l c i h : Nat} {xs : List Value} {o : List Nat} (hO : RdS H es (.slice a l c) xs o) (hih : i ≤ h) (hhl : h ≤ l) :
    RdS H es (.slice (svA es a c i) (h - i) (svC a c i)) ((xs.drop (i * es)).take ((h - i) * es)) o := by
  cases hO with
  | nil =>
    have e : h - i = 0 := by omega
    simp only [svA, svC, e, List.drop_nil, List.take_nil]
    exact .nil
  | empty a =>
    have e : h - i = 0 := by omega
    simp only [svA, svC, e, List.drop_nil, List.take_nil, if_true]
    exact .empty a
  | @blk b off l c cs e ro hg hc he hl =>
    by_cases h0 : c = 0
    · subst h0
      have e2 : l = 0 := by omega
      subst e2
      have e3 : i = 0 := by omega
      subst e3
      have e4 : h = 0 := by omega
      subst e4
      have h4 := RdS.blk (l := 0) (c := 0) (H := H) (es := es) (b := b) (off := off) hg (by omega) he (Nat.le_refl _)
      simpa [svA, svC] using h4
    · have hm1 := Nat.sub_mul h i es
      have hm2 := Nat.mul_le_mul_right es hih
      have hm3 := Nat.mul_le_mul_right es hhl
      have h4 := RdS.blk (H := H) (es := es) (b := b) (off := off + i * es) (l := h - i) (c := c - i) hg (by omega) he (by omega)
      have e : (List.drop (i * es) ((cs.drop off).take (l * es))).take ((h - i) * es) = (cs.drop (off + i * es)).take ((h - i) * es) := by
        rw [List.drop_take, List.take_take, List.drop_drop]
        congr 1
        omega
      rw [e]
      simp only [svA, svC, if_neg h0]
      exact h4
theorem sv_eop {T : FEnv} {H : AHeap} {es : Nat} {x : NOpd} {lo hi : Option NOpd} {a : Option Addr} {l c i h : Nat} {xs : List Value} {o : List Nat} (hx : x.evF T = .slice a l c) (hO : RdS H es (.slice a l c) xs o)
    (hb : sliceBnds l c (lo.map (·.evF T)) (hi.map (·.evF T)) none = some (i, h, c)) (hih : i ≤ h) (hhl : h ≤ l) : eop ((NOp.slice es x lo hi none).sub T) [] H = some (.val (.slice (svA es a c i) (h - i) (svC a c i)) H) := by
  cases hO with
  | nil =>
    have e : h - i = 0 := by omega
    simp only [NOp.sub, eop, ev_subF, hx, subOpt_ev', subOpt_none, Option.map_none, hb, Option.bind_some, svA, svC, e]
  | empty a =>
    have e : h - i = 0 := by omega
    simp only [NOp.sub, eop, ev_subF, hx, subOpt_ev', subOpt_none, Option.map_none, hb, Option.bind_some, svA, svC, e, if_true]
  | @blk b off l c cs e ro hg hc he hl =>
    by_cases h0 : c = 0
    · have e : h - i = 0 := by omega
      simp only [NOp.sub, eop, ev_subF, hx, subOpt_ev', subOpt_none, Option.map_none, hb, Option.bind_some, svA, svC, e, if_pos h0]
    · simp only [NOp.sub, eop, ev_subF, hx, subOpt_ev', subOpt_none, Option.map_none, hb, Option.bind_some, svA, svC, if_neg h0, hg, if_pos he]
section
variable {C : Callees} {T : FEnv} {B H : AHeap} {K : FEnv → AHeap → Prop} {d : Nat} {g : Option (Nat × Bool)} {As : List Asn}
theorem op1_sliceD {es : Nat} {x : NOpd} {lo hi : Option NOpd} {a : Option Addr} {l c i h : Nat} {xs : List Value} (hw : wantedF g T = true) (hx : x.evF T = .slice a l c) (hd : RD B As es (.slice a l c) xs) (hS : S B H As)
    (hb : sliceBnds l c (lo.map (·.evF T)) (hi.map (·.evF T)) none = some (i, h, c)) (hih : i ≤ h) (hhl : h ≤ l)
    (kk : ∀ a' c', RD B As es (.slice a' (h - i) c') ((xs.drop (i * es)).take ((h - i) * es)) → (∀ (Tf : FEnv) H2, S B H2 As → Tf d = .slice a' (h - i) c' → chkF1 (.slice es x lo hi none) d Tf T H2) → K (upd T d (.slice a' (h - i) c')) H) : op1 C ⟨some d, .slice es x lo hi none, g⟩ T H K := by
  obtain ⟨r, hr, hrl⟩ := hd H hS
  refine op1_val hw (sv_eop hx hr hb hih hhl) (kk (svA es a c i) (svC a c i) (fun H2 hS2 => ?_) fun Tf H2 hS2 he => ?_)
  · obtain ⟨r2, hr2, hrl2⟩ := hd H2 hS2
    exact ⟨r2, hr2.sv hih hhl, hrl2⟩
  · obtain ⟨r2, hr2, hrl2⟩ := hd H2 hS2
    refine ⟨H2, ?_⟩
    rw [sv_eop hx hr2 hb hih hhl, he]
end
section
variable {B H : AHeap} {As : List Asn}
theorem S.u1 {v : Value} {l : List Int} (h : S B H (sl 1 v (u8s l) :: As)) : ∃ a c, v = .slice a l.length c := by simpa using h.shape1
theorem RD.u1 {v : Value} {l : List Int} (h : RD B As 1 v (u8s l)) (hS : S B H As) : ∃ a c, v = .slice a l.length c := by simpa using h.shape1 hS
theorem flatMap_cut {α : Type} {f : α → List Value} {es : Nat} (hf : ∀ x, (f x).length = es) : ∀ {l : List α} {i : Nat} {x : α}, l[i]? = some x → ((l.flatMap f).drop (i * es)).take es = f x
  | [], i, x, h => by simp at h
  | y :: l, 0, x, h => by
    simp at h; subst h
    rw [List.flatMap_cons, Nat.zero_mul, List.drop_zero, List.take_append_of_le_length (by rw [hf]; exact Nat.le_refl _), List.take_of_length_le (by rw [hf]; exact Nat.le_refl _)]
  | y :: l, i + 1, x, h => by
    rw [List.flatMap_cons, Nat.add_mul, Nat.one_mul, Nat.add_comm, ← List.drop_drop, List.drop_left' (hf y)]
    exact flatMap_cut hf (by simpa using h)
end
end Go.E
