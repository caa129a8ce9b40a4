/-
  THE EVALUATOR, PART ZG: assertions that own blocks; a heap as a list of them beside a base that stays.
-/
import Derived.Test.YtlkgacbholklkaaEwZf
set_option linter.unusedSimpArgs false
set_option linter.unusedVariables false
namespace Go.E
open Go
structure Asn where
  f : AHeap → List Nat → Prop
  fr : ∀ {H H' : AHeap} {o : List Nat}, f H o → (∀ b ∈ o, H'.get b = H.get b) → f H' o

inductive Sts (H : AHeap) : List Asn → List Nat → Prop
  | nil : Sts H [] []
  | cons {A : Asn} {As : List Asn} {o O : List Nat} (h : A.f H o) (t : Sts H As O) : Sts H (A :: As) (o ++ O)

theorem Sts.fr {H H' : AHeap} {As : List Asn} {O : List Nat} (h : Sts H As O) : (∀ b ∈ O, H'.get b = H.get b) → Sts H' As O := by
  induction h with
  | nil => intro _; exact .nil
  | cons h t ih => intro k; exact .cons (Asn.fr _ h fun b hb => k b (by simp [hb])) (ih fun b hb => k b (by simp [hb]))
theorem Sts.append {H : AHeap} {As Bs : List Asn} {O O' : List Nat} (h : Sts H As O) (k : Sts H Bs O') : Sts H (As ++ Bs) (O ++ O') := by
  induction h with
  | nil => exact k
  | cons h t ih => rw [List.cons_append, List.append_assoc]; exact .cons h ih
theorem Sts.split {H : AHeap} : ∀ {As Bs : List Asn} {O : List Nat}, Sts H (As ++ Bs) O → ∃ O1 O2, O = O1 ++ O2 ∧ Sts H As O1 ∧ Sts H Bs O2
  | [], Bs, O, h => ⟨[], O, rfl, .nil, h⟩
  | A :: As, Bs, _, .cons h t => by
    obtain ⟨O1, O2, rfl, h1, h2⟩ := Sts.split t
    exact ⟨_, O2, (List.append_assoc _ _ _).symm, .cons h h1, h2⟩
theorem Sts.perm {H : AHeap} {As As' : List Asn} (p : As.Perm As') : ∀ {O : List Nat}, Sts H As O → ∃ O', Sts H As' O' ∧ O.Perm O' := by
  induction p with
  | nil => intro O h; exact ⟨O, h, .refl _⟩
  | cons x p ih =>
    intro O h
    cases h with
    | cons h t =>
      obtain ⟨O', h1, h2⟩ := ih t
      exact ⟨_, .cons h h1, h2.append_left _⟩
  | swap x y l =>
    intro O h
    cases h with
    | @cons _ _ o1 _ h t => cases t with
      | @cons _ _ o2 O2 h' t =>
        refine ⟨_, .cons h' (.cons h t), ?_⟩
        rw [← List.append_assoc, ← List.append_assoc]
        exact List.perm_append_comm.append_right _
  | trans p q ih1 ih2 =>
    intro O h
    obtain ⟨O1, h1, h2⟩ := ih1 h
    obtain ⟨O2, h3, h4⟩ := ih2 h1
    exact ⟨O2, h3, h2.trans h4⟩

structure S (B H : AHeap) (As : List Asn) : Prop where
  ex : ∃ O, Sts H As O ∧ O.Nodup ∧ ∀ b ∈ O, B.next ≤ b ∧ b < H.next
  base : ∀ b, b < B.next → H.get b = B.get b
  le : B.next ≤ H.next

def pto (b : Nat) (x : AObj) : Asn := ⟨fun H o => o = [b] ∧ H.get b = x, fun ⟨h1, h2⟩ k => ⟨h1, (k _ (by simp [h1])).trans h2⟩⟩
def sl (es : Nat) (v : Value) (xs : List Value) : Asn := ⟨fun H o => SlO H es v xs o, fun h k => h.frame k⟩
def pur (p : Prop) : Asn := ⟨fun _ o => o = [] ∧ p, fun h _ => h⟩
def exA {X : Type} (A : X → Asn) : Asn := ⟨fun H o => ∃ x, (A x).f H o, fun ⟨x, h⟩ k => ⟨x, (A x).fr h k⟩⟩
def seps (L : List Asn) : Asn := ⟨fun H o => Sts H L o, fun h k => h.fr k⟩

section
variable {B H H' : AHeap} {A A' : Asn} {As As' L : List Asn} {b c : Nat} {x y : AObj}
theorem S.inv (h : S B H (A :: As)) : ∃ o O, A.f H o ∧ Sts H As O ∧ (o ++ O).Nodup ∧ (∀ b ∈ o ++ O, B.next ≤ b ∧ b < H.next) ∧ (∀ b, b < B.next → H.get b = B.get b) ∧ B.next ≤ H.next := by
  obtain ⟨⟨_, h1, h2, h3⟩, hb, hl⟩ := h
  cases h1 with
  | cons h t => exact ⟨_, _, h, t, h2, h3, hb, hl⟩
theorem S.start (B : AHeap) : S B B [] := ⟨⟨[], .nil, by simp, by simp⟩, fun _ _ => rfl, Nat.le_refl _⟩
theorem S.perm (h : S B H As) (p : As.Perm As') : S B H As' := by
  obtain ⟨⟨O, h1, h2, h3⟩, hb, hl⟩ := h
  obtain ⟨O', h4, h5⟩ := h1.perm p
  exact ⟨⟨O', h4, h5.nodup_iff.1 h2, fun b hb => h3 b (h5.mem_iff.2 hb)⟩, hb, hl⟩
theorem S.drop (h : S B H (A :: As)) : S B H As := by
  obtain ⟨_, _, h1, h1', h2, h3, hb, hl⟩ := h.inv
  exact ⟨⟨_, h1', (List.nodup_append.1 h2).2.1, fun b hb => h3 b (by simp [hb])⟩, hb, hl⟩
theorem S.unseps (h : S B H (seps L :: As)) : S B H (L ++ As) := by
  obtain ⟨_, _, h1, h1', h2, h3, hb, hl⟩ := h.inv
  exact ⟨⟨_, Sts.append h1 h1', h2, h3⟩, hb, hl⟩
theorem S.seps (h : S B H (L ++ As)) : S B H (seps L :: As) := by
  obtain ⟨⟨_, h1, h2, h3⟩, hb, hl⟩ := h
  obtain ⟨O1, O2, rfl, k1, k2⟩ := h1.split
  exact ⟨⟨_, .cons k1 k2, h2, h3⟩, hb, hl⟩
theorem S.unex {X : Type} {A : X → Asn} (h : S B H (exA A :: As)) : ∃ x, S B H (A x :: As) := by
  obtain ⟨_, _, ⟨x, h1⟩, h1', h2, h3, hb, hl⟩ := h.inv
  exact ⟨x, ⟨_, .cons h1 h1', h2, h3⟩, hb, hl⟩
theorem S.exI {X : Type} {A : X → Asn} (x : X) (h : S B H (A x :: As)) : S B H (exA A :: As) := by
  obtain ⟨_, _, h1, h1', h2, h3, hb, hl⟩ := h.inv
  exact ⟨⟨_, .cons ⟨x, h1⟩ h1', h2, h3⟩, hb, hl⟩
theorem S.unpur {p : Prop} (h : S B H (pur p :: As)) : p ∧ S B H As := by
  have hd := h.drop
  obtain ⟨_, _, ⟨_, hp⟩, _, _, _, _, _⟩ := h.inv
  exact ⟨hp, hd⟩
theorem S.pur {p : Prop} (hp : p) (h : S B H As) : S B H (pur p :: As) := by
  obtain ⟨⟨_, h1, h2, h3⟩, hb, hl⟩ := h
  exact ⟨⟨_, .cons ⟨rfl, hp⟩ h1, h2, h3⟩, hb, hl⟩
theorem S.get (h : S B H (pto b x :: As)) : H.get b = x := by
  obtain ⟨_, _, ⟨_, h1⟩, _, _, _, _, _⟩ := h.inv
  exact h1
theorem S.lt (h : S B H (pto b x :: As)) : B.next ≤ b ∧ b < H.next := by
  obtain ⟨_, _, ⟨rfl, h1⟩, _, _, h3, _, _⟩ := h.inv
  exact h3 b (by simp)
theorem S.ne (h : S B H (pto b x :: pto c y :: As)) : b ≠ c := by
  obtain ⟨o, O, h1, h1', h2, _⟩ := h.inv
  cases h1' with
  | cons h t =>
    obtain ⟨rfl, _⟩ := h
    obtain ⟨rfl, _⟩ := h1
    intro e
    subst e
    simp at h2

theorem S.upd (h : S B H (A :: As)) (k : ∀ o, A.f H o → (∀ b ∈ o, B.next ≤ b ∧ b < H.next) → o.Nodup → ∃ o', A'.f H' o' ∧ Ext o H o' H' ∧ o'.Nodup) : S B H' (A' :: As) := by
  obtain ⟨o, O, h1, h1', h2, h3, hb, hl⟩ := h.inv
  obtain ⟨n1, n2, n3⟩ := List.nodup_append.1 h2
  obtain ⟨o', k1, k2, k3⟩ := k o h1 (fun b hb => h3 b (by simp [hb])) n1
  have hO : ∀ b ∈ O, b < H.next ∧ b ∉ o := fun b hb => ⟨(h3 b (by simp [hb])).2, fun hm => n3 b hm b hb rfl⟩
  refine ⟨⟨_, .cons k1 (h1'.fr fun b hb => k2.keep b (hO b hb).1 (hO b hb).2), List.nodup_append.2 ⟨k3, n2, fun a ha b hb e => ?_⟩, fun b hb => ?_⟩, fun b hlt => ?_, Nat.le_trans hl k2.next⟩
  · subst e
    rcases k2.own a ha with h | h
    · exact (hO a hb).2 h
    · have := (hO a hb).1; omega
  · simp only [List.mem_append] at hb
    rcases hb with hb | hb
    · rcases k2.own b hb with h | h
      · exact ⟨(h3 b (by simp [h])).1, Nat.lt_of_lt_of_le (h3 b (by simp [h])).2 k2.next⟩
      · exact ⟨by omega, h.2⟩
    · exact ⟨(h3 b (by simp [hb])).1, Nat.lt_of_lt_of_le (h3 b (by simp [hb])).2 k2.next⟩
  · rw [k2.keep b (by omega) fun hm => by have := (h3 b (by simp [hm])).1; omega]
    exact hb b hlt
theorem S.new (h : S B H As) {o' : List Nat} (k1 : A'.f H' o') (k2 : Ext [] H o' H') (k3 : o'.Nodup) : S B H' (A' :: As) := by
  have h0 : S B H (Go.E.pur True :: As) := S.pur trivial h
  refine h0.upd fun o ho _ _ => ⟨o', k1, ?_, k3⟩
  rw [ho.1]
  exact k2
theorem S.set (h : S B H (pto b x :: As)) (y : AObj) : S B (H.set b y) (pto b y :: As) := by
  refine h.upd fun o ho _ _ => ?_
  obtain ⟨rfl, _⟩ := ho
  exact ⟨[b], ⟨rfl, AHeap.gs_same⟩, ⟨by simp, fun c hc hn => by rw [AHeap.get_set, if_neg (by simpa using hn)], fun c hc => .inl hc⟩, by simp⟩
theorem S.add (h : S B H As) (y : AObj) : S B (H.add y) (pto H.next y :: As) :=
  h.new (o' := [H.next]) ⟨rfl, AHeap.ga_same⟩ ⟨by simp, fun c hc _ => by rw [AHeap.get_add, if_neg (by omega)], fun c hc => by simp at hc; subst hc; right; simp⟩ (by simp)
theorem S.step (h : S B H (pto b x :: As)) (h1 : H'.get b = y) (h2 : ∀ c, c ≠ b → H'.get c = H.get c) (h3 : H'.next = H.next) : S B H' (pto b y :: As) := by
  refine h.upd fun o ho _ _ => ?_
  obtain ⟨rfl, _⟩ := ho
  exact ⟨[b], ⟨rfl, h1⟩, ⟨by omega, fun c hc hn => h2 c (by simpa using hn), fun c hc => .inl hc⟩, by simp⟩

/-! ### slices -/
theorem S.slNil {es : Nat} (h : S B H As) : S B H (sl es (.slice none 0 0) [] :: As) :=
  h.new (o' := []) (SlO.nil : SlO H es _ _ _) (Ext.refl _ _) (by simp)
theorem S.rd {es : Nat} {v : Value} {xs : List Value} (h : S B H (sl es v xs :: As)) : ∃ r, RdS H es v xs r ∧ ∀ b ∈ r, b < H.next := by
  obtain ⟨_, _, h1, _, _, h3, _, _⟩ := h.inv
  exact ⟨_, SlO.rd h1, fun b hb => (h3 b (by simp [hb])).2⟩
theorem S.shape1 {v : Value} {xs : List Value} (h : S B H (sl 1 v xs :: As)) : ∃ a c, v = .slice a xs.length c := by
  obtain ⟨r, h, _⟩ := h.rd
  exact h.shape1
theorem S.shape {es : Nat} {v : Value} {xs : List Value} (h : S B H (sl es v xs :: As)) : ∃ a l c, v = .slice a l c ∧ xs.length = l * es := by
  obtain ⟨r, h, _⟩ := h.rd
  exact h.shape
theorem S.len_le {es : Nat} {a : Option Addr} {l c : Nat} {xs : List Value} (h : S B H (sl es (.slice a l c) xs :: As)) : l ≤ c := by
  obtain ⟨_, _, h1, _, _, h3, _, _⟩ := h.inv
  exact SlO.len_le h1
theorem S.slOf {es off l c : Nat} {cs : List Value} (h : S B H (pto b (.cells cs es false) :: As)) (hc : off + c * es = cs.length) (hl : l ≤ c) : S B H (sl es (.slice (some ⟨b, off, none⟩) l c) ((cs.drop off).take (l * es)) :: As) := by
  refine h.upd fun o ho _ _ => ?_
  obtain ⟨rfl, hg⟩ := ho
  exact ⟨[b], .blk hg hc hl, Ext.refl _ _, by simp⟩
theorem S.slNew {es l : Nat} {cs : List Value} (h : S B H (pto b (.cells cs es false) :: As)) (hc : cs.length = l * es) : S B H (sl es (.slice (some ⟨b, 0, none⟩) l l) cs :: As) := by
  have := h.slOf (off := 0) (l := l) (c := l) (by omega) (Nat.le_refl _)
  rwa [List.drop_zero, List.take_of_length_le (by omega)] at this
theorem S.slBlk {es l c : Nat} {a : Option Addr} {xs : List Value} (h : S B H (sl es (.slice a l c) xs :: As)) (hl : l ≠ 0) : ∃ b off cs, a = some ⟨b, off, none⟩ ∧ off + c * es = cs.length ∧ l ≤ c ∧ xs = (cs.drop off).take (l * es) ∧ S B H (pto b (.cells cs es false) :: As) := by
  obtain ⟨o, O, h1, h1', h2, h3, hb, hle⟩ := h.inv
  have h1 : SlO H es (.slice a l c) xs o := h1
  cases h1 with
  | nil => exact absurd rfl hl
  | blk hg hc hl' => exact ⟨_, _, _, rfl, hc, hl', rfl, ⟨_, .cons ⟨rfl, hg⟩ h1', h2, h3⟩, hb, hle⟩

theorem S.rdB {es : Nat} {v : Value} {xs : List Value} {r : List Nat} (h : S B H As) (hr : RdS B es v xs r) (hl : ∀ b ∈ r, b < B.next) : RdS H es v xs r := hr.frame fun b hb => h.base b (hl b hb)
def RD (B : AHeap) (As : List Asn) (es : Nat) (v : Value) (xs : List Value) : Prop := ∀ H, S B H As → ∃ r, RdS H es v xs r ∧ ∀ b ∈ r, b < H.next
theorem RD.base {es : Nat} {v : Value} {xs : List Value} {r : List Nat} (hr : RdS B es v xs r) (hl : ∀ b ∈ r, b < B.next) : RD B As es v xs := fun H h => ⟨r, h.rdB hr hl, fun b hb => Nat.lt_of_lt_of_le (hl b hb) h.le⟩
theorem RD.head {es : Nat} {v : Value} {xs : List Value} : RD B (sl es v xs :: As) es v xs := fun H h => h.rd
theorem RD.cons {es : Nat} {v : Value} {xs : List Value} (h : RD B As es v xs) : RD B (A :: As) es v xs := fun H k => h H k.drop
theorem RD.shape1 {v : Value} {xs : List Value} (h : RD B As 1 v xs) (hS : S B H As) : ∃ a c, v = .slice a xs.length c := by
  obtain ⟨r, k, _⟩ := h H hS
  exact k.shape1
theorem RD.nil {es : Nat} : RD B As es (.slice none 0 0) [] := fun H h => ⟨[], .nil, by simp⟩
end
/-! ### lists of elements that own blocks -/
section
variable {X : Type}
def many (E : X → List Value → Asn) : List X → List (List Value) → Asn
  | [], [] => Go.E.pur True
  | x :: xs, cs :: css => Go.E.seps [E x cs, many E xs css]
  | _, _ => Go.E.pur False
variable {B H : AHeap} {As : List Asn} {E : X → List Value → Asn}
def arr (es : Nat) (E : X → List Value → Asn) (v : Value) (xs : List X) : Asn :=
  exA fun css => Go.E.seps [sl es v css.flatten, many E xs css, Go.E.pur (∀ cs ∈ css, cs.length = es)]
end
/-! ### places -/
section
variable {B H : AHeap} {a0 a1 a2 a3 a4 a5 a6 a7 a8 a9 a10 a11 a12 a13 a14 : Asn} {L : List Asn}
theorem S.up0 (h : S B H (a0 :: L)) : S B H (a0 :: L) := h
theorem S.dn0 (h : S B H (a0 :: L)) : S B H (a0 :: L) := h
theorem S.up1 (h : S B H (a0 :: a1 :: L)) : S B H (a1 :: a0 :: L) := h.perm (List.perm_middle (l₁ := [a0]))
theorem S.dn1 (h : S B H (a1 :: a0 :: L)) : S B H (a0 :: a1 :: L) := h.perm (List.perm_middle (l₁ := [a0])).symm
theorem S.up2 (h : S B H (a0 :: a1 :: a2 :: L)) : S B H (a2 :: a0 :: a1 :: L) := h.perm (List.perm_middle (l₁ := [a0, a1]))
theorem S.dn2 (h : S B H (a2 :: a0 :: a1 :: L)) : S B H (a0 :: a1 :: a2 :: L) := h.perm (List.perm_middle (l₁ := [a0, a1])).symm
theorem S.up3 (h : S B H (a0 :: a1 :: a2 :: a3 :: L)) : S B H (a3 :: a0 :: a1 :: a2 :: L) := h.perm (List.perm_middle (l₁ := [a0, a1, a2]))
theorem S.dn3 (h : S B H (a3 :: a0 :: a1 :: a2 :: L)) : S B H (a0 :: a1 :: a2 :: a3 :: L) := h.perm (List.perm_middle (l₁ := [a0, a1, a2])).symm
theorem S.up4 (h : S B H (a0 :: a1 :: a2 :: a3 :: a4 :: L)) : S B H (a4 :: a0 :: a1 :: a2 :: a3 :: L) := h.perm (List.perm_middle (l₁ := [a0, a1, a2, a3]))
theorem S.dn4 (h : S B H (a4 :: a0 :: a1 :: a2 :: a3 :: L)) : S B H (a0 :: a1 :: a2 :: a3 :: a4 :: L) := h.perm (List.perm_middle (l₁ := [a0, a1, a2, a3])).symm
theorem S.up5 (h : S B H (a0 :: a1 :: a2 :: a3 :: a4 :: a5 :: L)) : S B H (a5 :: a0 :: a1 :: a2 :: a3 :: a4 :: L) := h.perm (List.perm_middle (l₁ := [a0, a1, a2, a3, a4]))
theorem S.dn5 (h : S B H (a5 :: a0 :: a1 :: a2 :: a3 :: a4 :: L)) : S B H (a0 :: a1 :: a2 :: a3 :: a4 :: a5 :: L) := h.perm (List.perm_middle (l₁ := [a0, a1, a2, a3, a4])).symm
theorem S.up6 (h : S B H (a0 :: a1 :: a2 :: a3 :: a4 :: a5 :: a6 :: L)) : S B H (a6 :: a0 :: a1 :: a2 :: a3 :: a4 :: a5 :: L) := h.perm (List.perm_middle (l₁ := [a0, a1, a2, a3, a4, a5]))
theorem S.up7 (h : S B H (a0 :: a1 :: a2 :: a3 :: a4 :: a5 :: a6 :: a7 :: L)) : S B H (a7 :: a0 :: a1 :: a2 :: a3 :: a4 :: a5 :: a6 :: L) := h.perm (List.perm_middle (l₁ := [a0, a1, a2, a3, a4, a5, a6]))
theorem S.dn7 (h : S B H (a7 :: a0 :: a1 :: a2 :: a3 :: a4 :: a5 :: a6 :: L)) : S B H (a0 :: a1 :: a2 :: a3 :: a4 :: a5 :: a6 :: a7 :: L) := h.perm (List.perm_middle (l₁ := [a0, a1, a2, a3, a4, a5, a6])).symm
theorem S.up8 (h : S B H (a0 :: a1 :: a2 :: a3 :: a4 :: a5 :: a6 :: a7 :: a8 :: L)) : S B H (a8 :: a0 :: a1 :: a2 :: a3 :: a4 :: a5 :: a6 :: a7 :: L) := h.perm (List.perm_middle (l₁ := [a0, a1, a2, a3, a4, a5, a6, a7]))
theorem S.dn8 (h : S B H (a8 :: a0 :: a1 :: a2 :: a3 :: a4 :: a5 :: a6 :: a7 :: L)) : S B H (a0 :: a1 :: a2 :: a3 :: a4 :: a5 :: a6 :: a7 :: a8 :: L) := h.perm (List.perm_middle (l₁ := [a0, a1, a2, a3, a4, a5, a6, a7])).symm
variable {b : Nat} {x : AObj}
theorem S.g0 (h : S B H (pto b x :: L)) : H.get b = x := h.up0.get
theorem S.g1 (h : S B H (a0 :: pto b x :: L)) : H.get b = x := h.up1.get
theorem S.g2 (h : S B H (a0 :: a1 :: pto b x :: L)) : H.get b = x := h.up2.get
theorem S.g3 (h : S B H (a0 :: a1 :: a2 :: pto b x :: L)) : H.get b = x := h.up3.get
theorem S.g4 (h : S B H (a0 :: a1 :: a2 :: a3 :: pto b x :: L)) : H.get b = x := h.up4.get
theorem S.g5 (h : S B H (a0 :: a1 :: a2 :: a3 :: a4 :: pto b x :: L)) : H.get b = x := h.up5.get
theorem S.g6 (h : S B H (a0 :: a1 :: a2 :: a3 :: a4 :: a5 :: pto b x :: L)) : H.get b = x := h.up6.get
theorem S.g7 (h : S B H (a0 :: a1 :: a2 :: a3 :: a4 :: a5 :: a6 :: pto b x :: L)) : H.get b = x := h.up7.get
theorem S.g8 (h : S B H (a0 :: a1 :: a2 :: a3 :: a4 :: a5 :: a6 :: a7 :: pto b x :: L)) : H.get b = x := h.up8.get
end
/-! ### steps -/
section
variable {C : Callees} {T : FEnv} {B H : AHeap} {K : FEnv → AHeap → Prop} {d : Nat} {g : Option (Nat × Bool)} {As : List Asn}
theorem op1_store1S {a x : NOpd} {b o : Nat} {cs : List Value} {es : Nat} {v : Value} (hw : wantedF g T = true) (ha : a.evF T = .pointer (some ⟨b, o, none⟩)) (hx : x.evF T = v) (hc : cellsL v = [v]) (h1 : v.oneCell' = true) (hS : S B H (pto b (.cells cs es false) :: As)) (hl : Nat.ble (o + 1) cs.length = true)
    (kk : ∀ H', S B H' (pto b (.cells (cs.set o v) es false) :: As) → K T H') : op1 C ⟨none, .store 1 a x, g⟩ T H K :=
  op1_store1 hw ha hx hc h1 hS.get hl (kk _ (hS.set _))
theorem op1_storeNS {n : Nat} {a x : NOpd} {b o : Nat} {cs : List Value} {es : Nat} {xs : List Value} (hw : wantedF g T = true) (ha : a.evF T = .pointer (some ⟨b, o, none⟩)) (hx : x.evF T = .agg ⟨xs⟩) (hn : xs.length = n) (h1 : xs.all (·.oneCell') = true) (hS : S B H (pto b (.cells cs es false) :: As)) (hl : o + n ≤ cs.length)
    (kk : ∀ H', S B H' (pto b (.cells (cs.take o ++ xs ++ cs.drop (o + n)) es false) :: As) → K T H') : op1 C ⟨none, .store n a x, g⟩ T H K :=
  op1_storeN hw ha hx hn h1 hS.get hl (kk _ (hS.set _))
theorem op1_allocS {es : Nat} {z : List Value} (hw : wantedF g T = true) (hS : S B H As) (kk : ∀ p H', S B H' (pto p (.cells z es false) :: As) → K (upd T d (.pointer (some ⟨p, 0, none⟩))) H') : op1 C ⟨some d, .alloc es z, g⟩ T H K :=
  op1_alloc hw (kk _ _ (hS.add _))
theorem op1_box1S {es : Nat} {x : NOpd} {v : Value} (hw : wantedF g T = true) (hx : x.evF T = v) (hc : cellsL v = [v]) (h1 : v.oneCell' = true) (hS : S B H As) (kk : ∀ p H', S B H' (pto p (.cells [v] es false) :: As) → K (upd T d (.pointer (some ⟨p, 0, none⟩))) H') : op1 C ⟨some d, .box es x, g⟩ T H K :=
  op1_box1 hw hx hc h1 (kk _ _ (hS.add _))
theorem op1_boxNS {es : Nat} {x : NOpd} {vs : List Value} (hw : wantedF g T = true) (hx : x.evF T = .agg ⟨vs⟩) (h1 : vs.all (·.oneCell') = true) (hS : S B H As) (kk : ∀ p H', S B H' (pto p (.cells vs es false) :: As) → K (upd T d (.pointer (some ⟨p, 0, none⟩))) H') : op1 C ⟨some d, .box es x, g⟩ T H K :=
  op1_boxN hw hx h1 (kk _ _ (hS.add _))
theorem op1_mksliceS {es by_ : Nat} {z : List Value} {l c : NOpd} {i j : IntKind} {n m : Int} (hw : wantedF g T = true) (hl : l.evF T = .int i n) (hc : c.evF T = .int j m) (h0 : 0 ≤ n) (h1 : n ≤ m) (h2 : m ≤ 2147483648) (hS : S B H As)
    (kk : ∀ p H', S B H' (pto p (.cells (zeroOf z m.toNat) es false) :: As) → K (upd T d (.slice (some ⟨p, 0, none⟩) n.toNat m.toNat)) H') : op1 C ⟨some d, .mkslice es by_ z l c, g⟩ T H K :=
  op1_mkslice hw hl hc h0 h1 h2 (kk _ _ (hS.add _))
theorem op1_bsliceS {es n : Nat} {z : List Value} {ps : List (Nat × Nat × NOpd)} (hw : wantedF g T = true) (hS : S B H As) (k : BuildK T z ps fun cs => ∀ p H', S B H' (pto p (.cells cs es false) :: As) → K (upd T d (.slice (some ⟨p, 0, none⟩) n n)) H') : op1 C ⟨some d, .bslice es n z ps, g⟩ T H K := by
  refine op1_bslice hw ?_
  obtain ⟨cs, h, k⟩ := k
  exact ⟨cs, h, k _ _ (hS.add _)⟩
theorem op1_mkmapS (hw : wantedF g T = true) (hS : S B H As) (kk : ∀ p H', S B H' (pto p (.map [] 0) :: As) → K (upd T d (.map (some p))) H') : op1 C ⟨some d, .mkmap, g⟩ T H K :=
  op1_mkmap hw (kk _ _ (hS.add _))
theorem op1_appS {es by_ : Nat} {s x : NOpd} {a : Option Addr} {l c k : Nat} {xs ys : List Value} {w : Value} (hw : wantedF g T = true) (hs : s.evF T = .slice a l c) (hx : x.evF T = w) (hes : Nat.ble 1 es = true) (hS : S B H (sl es (.slice a l c) xs :: As)) (hk : lenV w = some k) (hsrc : H.src es w k = some ys) (hy : ys.length = k * es)
    (h1 : ys.all (·.oneCell') = true) (hlim : l + k ≤ 2147483648)
    (kk : ∀ a' c' H', S B H' (sl es (.slice a' (l + k) c') (xs ++ ys) :: As) → K (upd T d (.slice a' (l + k) c')) H') : op1 C ⟨some d, .append es by_ s x, g⟩ T H K := by
  have hS0 := hS
  obtain ⟨o, O, h1', h1'', h2, h3, hb, hle⟩ := hS.inv
  obtain ⟨a', c', o', H', e, k1, k2⟩ := append_own (Nat.le_of_ble_eq_true hes) h1' hk hsrc hy h1 hlim (fun b hb => (h3 b (by simp [hb])).2)
  refine op1_append hw hs hx e (kk a' c' H' ?_)
  have hO : S B H' (sl es (.slice a' (l + k) c') (xs ++ ys) :: As) := by
    have h4 : S B H (⟨fun G q => q = o ∧ SlO G es (.slice a l c) xs q, fun ⟨e, h⟩ k => ⟨e, h.frame k⟩⟩ :: As) := ⟨⟨_, .cons ⟨rfl, h1'⟩ h1'', h2, h3⟩, hb, hle⟩
    refine h4.upd fun q hq _ _ => ?_
    obtain ⟨rfl, _⟩ := hq
    exact ⟨o', k1, k2, SlO.single k1⟩
  exact hO
theorem op1_appBS {es by_ : Nat} {s x : NOpd} {a : Option Addr} {l c n c2 b e : Nat} {xs ys : List Value} {ro : Bool} (hw : wantedF g T = true) (hs : s.evF T = .slice a l c) (hx : x.evF T = .slice (some ⟨b, 0, none⟩) n c2) (hes : Nat.ble 1 es = true) (hg : H.get b = .cells ys e ro) (hy : ys.length = n * es)
    (h1 : ys.all (·.oneCell') = true) (hS : S B H (sl es (.slice a l c) xs :: As)) (hlim : l + n ≤ 2147483648)
    (kk : ∀ a' c' H', S B H' (sl es (.slice a' (l + n) c') (xs ++ ys) :: As) → K (upd T d (.slice a' (l + n) c')) H') : op1 C ⟨some d, .append es by_ s x, g⟩ T H K :=
  op1_appS hw hs hx hes hS rfl (src_blk hg hy) hy h1 hlim kk
theorem op1_appRS {es by_ : Nat} {s x : NOpd} {a a2 : Option Addr} {l c n c2 : Nat} {xs ys : List Value} {r : List Nat} (hw : wantedF g T = true) (hs : s.evF T = .slice a l c) (hx : x.evF T = .slice a2 n c2) (hes : Nat.ble 1 es = true) (hR : RdS H es (.slice a2 n c2) ys r) (hy : ys.length = n * es)
    (h1 : ys.all (·.oneCell') = true) (hS : S B H (sl es (.slice a l c) xs :: As)) (hlim : l + n ≤ 2147483648)
    (kk : ∀ a' c' H', S B H' (sl es (.slice a' (l + n) c') (xs ++ ys) :: As) → K (upd T d (.slice a' (l + n) c')) H') : op1 C ⟨some d, .append es by_ s x, g⟩ T H K := by
  have := hR.src (Nat.le_of_ble_eq_true hes) (k := n) (by omega)
  rw [List.take_of_length_le (by omega)] at this
  exact op1_appS hw hs hx hes hS rfl this hy h1 hlim kk
theorem op1_sliS {es : Nat} {x : NOpd} {lo hi : Option NOpd} {a : Option Addr} {l c i h : Nat} {xs : List Value} (hw : wantedF g T = true) (hx : x.evF T = .slice a l c) (hS : S B H (sl es (.slice a l c) xs :: As))
    (hb : sliceBnds l c (lo.map (·.evF T)) (hi.map (·.evF T)) none = some (i, h, c)) (hih : i ≤ h) (hhl : h ≤ l)
    (kk : ∀ a' c', S B H (sl es (.slice a' (h - i) c') ((xs.drop (i * es)).take ((h - i) * es)) :: As) → K (upd T d (.slice a' (h - i) c')) H) : op1 C ⟨some d, .slice es x lo hi none, g⟩ T H K := by
  obtain ⟨o, O, h1', h1'', h2, h3, hbb, hle⟩ := hS.inv
  exact op1_sliceO hw hx h1' hb hih hhl fun a' c' k => kk a' c' ⟨⟨_, .cons k h1'', h2, h3⟩, hbb, hle⟩
theorem op1_store1L {a x : NOpd} {b off l c k es : Nat} {xs : List Value} {v : Value} (hw : wantedF g T = true) (ha : a.evF T = .pointer (some ⟨b, off + k, none⟩)) (hx : x.evF T = v) (hc : cellsL v = [v]) (h1 : v.oneCell' = true) (hS : S B H (sl es (.slice (some ⟨b, off, none⟩) l c) xs :: As)) (hk : k < l * es)
    (kk : ∀ H', S B H' (sl es (.slice (some ⟨b, off, none⟩) l c) (xs.set k v) :: As) → K T H') : op1 C ⟨none, .store 1 a x, g⟩ T H K := by
  have hl0 : l ≠ 0 := by intro e; subst e; omega
  have hsl := hS
  obtain ⟨o, O, k1, k2, h2, h3, hb, hle⟩ := hS.inv
  have k1 : SlO H es (.slice (some ⟨b, off, none⟩) l c) xs o := k1
  obtain ⟨b', off', cs, e, rfl, hg⟩ := SlO.ne k1 hl0
  cases e
  have hle2 := SlO.len_le k1
  have hm := Nat.mul_le_mul_right es hle2
  have hcs : off + c * es = cs.length := by
    cases k1 with
    | blk hg' hc' hl' => rw [hg'] at hg; cases hg; exact hc'
  refine op1_store1 hw ha hx hc h1 hg (Nat.ble_eq_true_of_le (by omega)) (kk _ ?_)
  have h4 : S B H (⟨fun G q => q = [b] ∧ SlO G es (.slice (some ⟨b, off, none⟩) l c) xs q, fun ⟨e, h⟩ k => ⟨e, h.frame k⟩⟩ :: As) := ⟨⟨_, .cons ⟨rfl, k1⟩ k2, h2, h3⟩, hb, hle⟩
  refine h4.upd fun q hq _ _ => ?_
  obtain ⟨rfl, _⟩ := hq
  exact ⟨[b], SlO.setAt k1 hg k v, ⟨by simp, fun c hc hn => by rw [AHeap.get_set, if_neg (by simpa using hn)], fun c hc => .inl hc⟩, by simp⟩
end
end Go.E
