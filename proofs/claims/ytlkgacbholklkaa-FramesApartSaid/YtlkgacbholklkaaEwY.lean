/-
  THE EVALUATOR, PART Y: slices: who owns their blocks, what they hold, what append and slicing do.
-/
import Derived.Test.YtlkgacbholklkaaEwX
set_option linter.unusedSimpArgs false
set_option linter.unusedVariables false
namespace Go.E
open Go
inductive RdS (H : AHeap) (es : Nat) : Value → List Value → List Nat → Prop
  | nil : RdS H es (.slice none 0 0) [] []
  | empty (a : Addr) : RdS H es (.slice (some a) 0 0) [] []
  | blk {b off l c : Nat} {cs : List Value} {e : Nat} {ro : Bool} (hg : H.get b = .cells cs e ro) (hc : off + l * es ≤ cs.length) (he : e = 0 ∨ e = es) (hl : l ≤ c) : RdS H es (.slice (some ⟨b, off, none⟩) l c) ((cs.drop off).take (l * es)) [b]

inductive SlO (H : AHeap) (es : Nat) : Value → List Value → List Nat → Prop
  | nil : SlO H es (.slice none 0 0) [] []
  | blk {b off l c : Nat} {cs : List Value} (hg : H.get b = .cells cs es false) (hc : off + c * es = cs.length) (hl : l ≤ c) : SlO H es (.slice (some ⟨b, off, none⟩) l c) ((cs.drop off).take (l * es)) [b]

structure Ext (o : List Nat) (H : AHeap) (o' : List Nat) (H' : AHeap) : Prop where
  next : H.next ≤ H'.next
  keep : ∀ b, b < H.next → b ∉ o → H'.get b = H.get b
  own : ∀ b ∈ o', b ∈ o ∨ (H.next ≤ b ∧ b < H'.next)

theorem Ext.refl (o : List Nat) (H : AHeap) : Ext o H o H := ⟨Nat.le_refl _, fun _ _ _ => rfl, fun b h => .inl h⟩
theorem Ext.trans {o1 o2 o3 : List Nat} {H1 H2 H3 : AHeap} (h : Ext o1 H1 o2 H2) (k : Ext o2 H2 o3 H3) (hb : ∀ b ∈ o1, b < H1.next) : Ext o1 H1 o3 H3 where
  next := Nat.le_trans h.next k.next
  keep b hb hn := by
    rw [k.keep b (Nat.lt_of_lt_of_le hb h.next) fun hm => (h.own b hm).elim hn fun ⟨h1, _⟩ => absurd hb (by omega)]
    exact h.keep b hb hn
  own b hm := by
    have h1 := h.next
    have h2 := k.next
    rcases k.own b hm with h3 | ⟨h3, h4⟩
    · rcases h.own b h3 with h5 | ⟨h5, h6⟩
      · exact .inl h5
      · exact .inr ⟨h5, by omega⟩
    · exact .inr ⟨by omega, h4⟩
theorem Ext.mono {o o1 o' : List Nat} {H H' : AHeap} (h : Ext o H o' H') (hs : ∀ b ∈ o, b ∈ o1) : Ext o1 H o' H' :=
  ⟨h.next, fun b hb hn => h.keep b hb fun hm => hn (hs b hm), fun b hm => (h.own b hm).imp (hs b) id⟩
theorem Ext.lt {o o' : List Nat} {H H' : AHeap} (h : Ext o H o' H') (hb : ∀ b ∈ o, b < H.next) : ∀ b ∈ o', b < H'.next := fun b hm => (h.own b hm).elim (fun k => Nat.lt_of_lt_of_le (hb b k) h.next) fun k => k.2

theorem Ext.add (o : List Nat) (H : AHeap) (x : AObj) : Ext o H o (H.add x) :=
  ⟨by simp, fun b hb _ => by rw [AHeap.get_add, if_neg (by omega)], fun b hb => .inl hb⟩
theorem SlO.add {H : AHeap} {es : Nat} {v : Value} {xs : List Value} {o : List Nat} (h : SlO H es v xs o) (hb : ∀ b ∈ o, b < H.next) (x : AObj) : SlO (H.add x) es v xs o := by
  cases h with
  | nil => exact .nil
  | blk hg hc hl => exact .blk (AHeap.ga_lt (hb _ (by simp)) hg) hc hl
theorem SlO.frame {H H' : AHeap} {es : Nat} {v : Value} {xs : List Value} {o : List Nat} (h : SlO H es v xs o) (k : ∀ b ∈ o, H'.get b = H.get b) : SlO H' es v xs o := by
  cases h with
  | nil => exact .nil
  | blk hg hc hl => exact .blk ((k _ (by simp)).trans hg) hc hl
theorem RdS.frame {H H' : AHeap} {es : Nat} {v : Value} {xs : List Value} {o : List Nat} (h : RdS H es v xs o) (k : ∀ b ∈ o, H'.get b = H.get b) : RdS H' es v xs o := by
  cases h with
  | nil => exact .nil
  | empty a => exact .empty a
  | blk hg hc he hl => exact .blk ((k _ (by simp)).trans hg) hc he hl
theorem SlO.rd {H : AHeap} {es : Nat} {v : Value} {xs : List Value} {o : List Nat} (h : SlO H es v xs o) : RdS H es v xs o := by
  cases h with
  | nil => exact .nil
  | blk hg hc hl => exact .blk hg (by have := Nat.mul_le_mul_right es hl; omega) (.inr rfl) hl
theorem SlO.single {H : AHeap} {es : Nat} {v : Value} {xs : List Value} {o : List Nat} (h : SlO H es v xs o) : o.Nodup := by
  cases h <;> simp
theorem SlO.lt {H : AHeap} {es : Nat} {v : Value} {xs : List Value} {o : List Nat} (h : SlO H es v xs o) (ok : ∀ b, H.next ≤ b → H.get b = .dead) : ∀ b ∈ o, b < H.next := by
  cases h with
  | nil => simp
  | blk hg hc hl =>
    intro b hb
    simp at hb
    subst hb
    rcases Nat.lt_or_ge b H.next with h | h
    · exact h
    · rw [ok b h] at hg; cases hg

theorem RdS.shape {H : AHeap} {es : Nat} {v : Value} {xs : List Value} {o : List Nat} (h : RdS H es v xs o) : ∃ a l c, v = .slice a l c ∧ xs.length = l * es := by
  cases h with
  | nil => exact ⟨_, _, _, rfl, by simp⟩
  | empty a => exact ⟨_, _, _, rfl, by simp⟩
  | blk hg hc he hl => exact ⟨_, _, _, rfl, by simp only [List.length_take, List.length_drop]; omega⟩
theorem RdS.shape1 {H : AHeap} {v : Value} {xs : List Value} {o : List Nat} (h : RdS H 1 v xs o) : ∃ a c, v = .slice a xs.length c := by
  obtain ⟨a, l, c, rfl, e⟩ := h.shape
  rw [Nat.mul_one] at e
  exact ⟨a, c, by rw [e]⟩
theorem SlO.shape {H : AHeap} {es : Nat} {v : Value} {xs : List Value} {o : List Nat} (h : SlO H es v xs o) : ∃ a l c, v = .slice a l c ∧ xs.length = l * es := h.rd.shape
theorem SlO.shape1 {H : AHeap} {v : Value} {xs : List Value} {o : List Nat} (h : SlO H 1 v xs o) : ∃ a c, v = .slice a xs.length c := h.rd.shape1

theorem SlO.len_le {H : AHeap} {es : Nat} {a : Option Addr} {l c : Nat} {xs : List Value} {o : List Nat} (h : SlO H es (.slice a l c) xs o) : l ≤ c := by
  cases h with
  | nil => omega
  | blk hg hc hl => exact hl
theorem RdS.at {H : AHeap} {es : Nat} {a : Option Addr} {l c : Nat} {xs : List Value} {o : List Nat} (h : RdS H es (.slice a l c) xs o) {i : Nat} (hi : i < l) : ∃ b off cs e ro, a = some ⟨b, off, none⟩ ∧ o = [b] ∧ H.get b = .cells cs e ro ∧ off + l * es ≤ cs.length ∧ ∀ j, j < es → cs[off + i * es + j]? = xs[i * es + j]? := by
  cases h with
  | nil => omega
  | empty a => omega
  | blk hg hc he hl =>
    refine ⟨_, _, _, _, _, rfl, rfl, hg, hc, fun j hj => ?_⟩
    have h1 : i * es + j < l * es := by
      have := Nat.mul_le_mul_right es (show i + 1 ≤ l from hi)
      rw [Nat.add_mul, Nat.one_mul] at this
      omega
    rw [List.getElem?_take, if_pos h1, List.getElem?_drop, Nat.add_assoc]
theorem RdS.at1 {H : AHeap} {a : Option Addr} {l c : Nat} {xs : List Value} {o : List Nat} (h : RdS H 1 (.slice a l c) xs o) {i : Nat} (hi : i < l) : ∃ b off cs e ro v, a = some ⟨b, off, none⟩ ∧ o = [b] ∧ H.get b = .cells cs e ro ∧ cs[off + i * 1]? = some v ∧ xs[i]? = some v := by
  obtain ⟨b, off, cs, e, ro, h1, h2, h3, h4, h5⟩ := h.at hi
  have := h5 0 (by omega)
  simp only [Nat.add_zero, Nat.mul_one] at this
  have hlt : off + i < cs.length := by omega
  obtain ⟨v, hv⟩ : ∃ v, cs[off + i]? = some v := ⟨cs[off + i], by simp [hlt]⟩
  exact ⟨b, off, cs, e, ro, v, h1, h2, h3, by rw [Nat.mul_one]; exact hv, this ▸ hv⟩

theorem SlO.at {H : AHeap} {es : Nat} {a : Option Addr} {l c : Nat} {xs : List Value} {o : List Nat} (h : SlO H es (.slice a l c) xs o) {i : Nat} (hi : i < l) : ∃ b off cs, a = some ⟨b, off, none⟩ ∧ o = [b] ∧ H.get b = .cells cs es false ∧ off + l * es ≤ cs.length ∧ ∀ j, j < es → cs[off + i * es + j]? = xs[i * es + j]? := by
  cases h with
  | nil => omega
  | blk hg hc hl =>
    have h2 := Nat.mul_le_mul_right es hl
    refine ⟨_, _, _, rfl, rfl, hg, by omega, fun j hj => ?_⟩
    have h1 : i * es + j < l * es := by
      have := Nat.mul_le_mul_right es (show i + 1 ≤ l from hi)
      rw [Nat.add_mul, Nat.one_mul] at this
      omega
    rw [List.getElem?_take, if_pos h1, List.getElem?_drop, Nat.add_assoc]
theorem SlO.setAt {H H1 : AHeap} {es b off l c : Nat} {cs xs : List Value} {o : List Nat} (h : SlO H es (.slice (some ⟨b, off, none⟩) l c) xs o) (hg : H.get b = .cells cs es false) (i : Nat) (v : Value) : SlO (H1.set b (.cells (cs.set (off + i) v) es false)) es (.slice (some ⟨b, off, none⟩) l c) (xs.set i v) o := by
  cases h with
  | blk hg' hc hl =>
    rw [hg] at hg'
    cases hg'
    have h1 := SlO.blk (H := H1.set b (.cells (cs.set (off + i) v) es false)) (es := es) (b := b) (off := off) (l := l) (c := c) AHeap.gs_same (by rw [List.length_set]; exact hc) hl
    have e : ((cs.set (off + i) v).drop off).take (l * es) = ((cs.drop off).take (l * es)).set i v := by
      rw [List.drop_set, if_neg (by omega), Nat.add_sub_cancel_left]
      apply List.ext_getElem?
      intro j
      simp only [List.getElem?_take, List.getElem?_set, List.length_take, List.length_drop]
      by_cases hj : j < l * es
      · simp only [hj, if_true]
        by_cases hij : i = j
        · subst hij
          simp only [if_true]
          by_cases h5 : i < cs.length - off
          · rw [if_pos h5, if_pos (by omega)]
          · rw [if_neg h5, if_neg (by omega)]
        · simp only [hij, if_false, List.getElem?_take, hj, if_true]
      · simp only [hj, if_false]
        by_cases hij : i = j
        · subst hij
          rw [if_pos rfl, if_neg (by omega)]
        · rw [if_neg hij]
    rw [← e]
    exact h1
theorem RdS.src {H : AHeap} {es : Nat} {v : Value} {xs : List Value} {o : List Nat} (h : RdS H es v xs o) (hes : 0 < es) {k : Nat} (hk : k * es ≤ xs.length) : H.src es v k = some (xs.take (k * es)) := by
  unfold AHeap.src
  split
  · rename_i h0; simp [h0]
  rename_i h0
  have hk1 : 1 ≤ k := by omega
  have hke : 1 ≤ k * es := Nat.mul_pos hk1 hes
  cases h with
  | nil => simp only [List.length_nil] at hk; omega
  | empty a => simp only [List.length_nil] at hk; omega
  | blk hg hc he hl =>
    simp only [List.length_take, List.length_drop] at hk
    simp only [AHeap.row, hg]
    rw [if_pos (by omega), List.take_take, Nat.min_eq_left (by omega)]

theorem take_app {α : Type} (a b : List α) (n : Nat) (h : n = a.length) : (a ++ b).take n = a := by subst h; simp
theorem drop_take_set {cs ys : List Value} {off l es k : Nat} (h : off + l * es + k ≤ cs.length) (hk : ys.length = k) :
    ((cs.take (off + l * es) ++ ys ++ cs.drop (off + l * es + ys.length)).drop off).take (l * es + k) = (cs.drop off).take (l * es) ++ ys := by
  have e1 : (cs.take (off + l * es) ++ ys ++ cs.drop (off + l * es + ys.length)).drop off = (cs.drop off).take (l * es) ++ ys ++ cs.drop (off + l * es + ys.length) := by
    rw [List.append_assoc, List.drop_append_of_le_length (by simp only [List.length_take]; omega), List.drop_take, Nat.add_sub_cancel_left, List.append_assoc]
  rw [e1]
  refine take_app _ _ _ ?_
  simp only [List.length_append, List.length_take, List.length_drop, hk]; omega

theorem append_own {H : AHeap} {es : Nat} {a : Option Addr} {l c : Nat} {xs ys : List Value} {o : List Nat} {w : Value} {k : Nat} (hes : 0 < es) (hs : SlO H es (.slice a l c) xs o) (hw : lenV w = some k) (hsrc : H.src es w k = some ys) (hy : ys.length = k * es)
    (h1 : ys.all (·.oneCell') = true) (hlim : l + k ≤ 2147483648) (hob : ∀ b ∈ o, b < H.next) : ∃ a' c' o' H', H.appendV es (.slice a l c) w = some (.slice a' (l + k) c', H') ∧ SlO H' es (.slice a' (l + k) c') (xs ++ ys) o' ∧ Ext o H o' H' := by
  simp only [AHeap.appendV, hw, AHeap.appendK, hsrc]
  cases hs with
  | nil =>
    by_cases hk : 0 + k ≤ 0
    · have : k = 0 := by omega
      subst this
      rw [if_pos hk]
      have : ys = [] := List.eq_nil_of_length_eq_zero (by omega)
      subst this
      exact ⟨_, _, [], H, rfl, .nil, Ext.refl _ _⟩
    · rw [if_neg hk, if_pos (by simp only [limit]; omega)]
      refine ⟨some ⟨H.next, 0, none⟩, k, [H.next], _, by rw [Nat.zero_add]; rfl, ?_, ?_⟩
      · rw [Nat.zero_add, List.nil_append]
        have := SlO.blk (H := H.add (.cells ys es false)) (es := es) (b := H.next) (off := 0) (l := k) (c := k) (cs := ys) (by simp) (by omega) (Nat.le_refl _)
        rwa [List.drop_zero, List.take_of_length_le (by omega)] at this
      · refine ⟨by simp, fun b hb _ => ?_, fun b hb => ?_⟩
        · simp only [AHeap.get_add]; rw [if_neg (by omega)]
        · simp at hb; subst hb; right; simp
  | @blk b off l c cs hg hc hl =>
    by_cases hk : l + k ≤ c
    · rw [if_pos hk]
      by_cases h0 : k = 0
      · subst h0
        have : ys = [] := List.eq_nil_of_length_eq_zero (by omega)
        subst this
        refine ⟨some ⟨b, off, none⟩, c, [b], H, by simp, ?_, Ext.refl _ _⟩
        simp only [Nat.add_zero, List.append_nil]
        exact .blk hg hc hl
      · simp only [if_neg h0, Option.bind_some, AHeap.putRow, hg]
        have hmul : (l + k) * es ≤ c * es := Nat.mul_le_mul_right es hk
        rw [Nat.add_mul] at hmul
        rw [if_pos ⟨trivial, by omega, h1⟩]
        refine ⟨some ⟨b, off, none⟩, c, [b], _, rfl, ?_, ?_⟩
        · have h2 := drop_take_set (cs := cs) (ys := ys) (off := off) (l := l) (es := es) (k := k * es) (by omega) hy
          have h3 := SlO.blk (H := H.set b (.cells (cs.take (off + l * es) ++ ys ++ cs.drop (off + l * es + ys.length)) es false)) (es := es) (b := b) (off := off) (l := l + k) (c := c) (AHeap.gs_same)
            (by simp only [List.length_append, List.length_take, List.length_drop]; omega) hk
          rw [Nat.add_mul, h2] at h3
          exact h3
        · refine ⟨by simp, fun d hd hn => ?_, fun d hd => .inl hd⟩
          simp only [AHeap.get_set]; rw [if_neg (by simpa using hn)]
    · rw [if_neg hk, if_pos (by simp only [limit]; omega)]
      have hmul : l * es ≤ c * es := Nat.mul_le_mul_right es hl
      simp only [Option.bind_some, hg]
      rw [if_pos (by omega), if_pos ⟨by omega, hc⟩, if_pos ⟨trivial, trivial⟩]
      refine ⟨some ⟨(H.set b .dead).next, 0, none⟩, l + k, [(H.set b .dead).next], _, rfl, ?_, ?_⟩
      · have hlen : ((cs.drop off).take (l * es) ++ ys).length = (l + k) * es := by
          simp only [List.length_append, List.length_take, List.length_drop, Nat.add_mul]; omega
        have := SlO.blk (H := (H.set b .dead).add (.cells ((cs.drop off).take (l * es) ++ ys) es false)) (es := es) (b := (H.set b .dead).next) (off := 0) (l := l + k) (c := l + k) (cs := (cs.drop off).take (l * es) ++ ys) AHeap.ga_same (by omega) (Nat.le_refl _)
        rwa [List.drop_zero, List.take_of_length_le (Nat.le_of_eq hlen)] at this
      · refine ⟨by simp, fun d hd hn => ?_, fun d hd => ?_⟩
        · simp only [AHeap.get_add, AHeap.next_set, AHeap.get_set]; rw [if_neg (by omega), if_neg (by simpa using hn)]
        · simp at hd; subst hd; right; simp

section
variable {C : Callees} {T : FEnv} {H : AHeap} {K : KO} {d : Nat} {g : Option (Nat × Bool)}
theorem src_blk {H : AHeap} {es n c b : Nat} {ys : List Value} {e : Nat} {ro : Bool} (hg : H.get b = .cells ys e ro) (hy : ys.length = n * es) : H.src es (.slice (some ⟨b, 0, none⟩) n c) n = some ys := by
  unfold AHeap.src
  split
  · rename_i h; subst h
    have : ys = [] := List.eq_nil_of_length_eq_zero (by omega)
    rw [this]
  · simp only [AHeap.row, hg, List.drop_zero]
    rw [if_pos (by omega), List.take_of_length_le (by omega)]
theorem op1_sliceO {es : Nat} {x : NOpd} {lo hi : Option NOpd} {a : Option Addr} {l c i h : Nat} {xs : List Value} {o : List Nat} (hw : wantedF g T = true) (hx : x.evF T = .slice a l c) (hO : SlO H es (.slice a l c) xs o)
    (hb : sliceBnds l c (lo.map (·.evF T)) (hi.map (·.evF T)) none = some (i, h, c)) (hih : i ≤ h) (hhl : h ≤ l)
    (kk : ∀ a' c', SlO H es (.slice a' (h - i) c') ((xs.drop (i * es)).take ((h - i) * es)) o → K (upd T d (.slice a' (h - i) c')) H) : op1 C ⟨some d, .slice es x lo hi none, g⟩ T H K := by
  cases hO with
  | nil =>
    have e : h - i = 0 := by omega
    refine op1_sliceNil hw hx hb ?_
    have := kk none 0
    rw [e] at this
    simp only [List.drop_nil, List.take_nil] at this
    exact this .nil
  | @blk b off l c cs hg hc hl =>
    by_cases h0 : c = 0
    · subst h0
      have e : h - i = 0 := by omega
      have e2 : l = 0 := by omega
      subst e2
      have e3 : i = 0 := by omega
      refine op1_slice0 hw hx hb ?_
      have := kk (some ⟨b, off, none⟩) 0
      rw [e] at this
      refine this ?_
      have h4 := SlO.blk (l := 0) hg hc (Nat.le_refl _)
      simp only [Nat.zero_mul, List.take_zero] at h4 ⊢
      exact h4
    · refine op1_slice hw hx h0 hb hg (.inr rfl) (kk (some ⟨b, off + i * es, none⟩) (c - i) ?_)
      have h4 := SlO.blk (H := H) (es := es) (b := b) (off := off + i * es) (l := h - i) (c := c - i) hg (by
        have := Nat.sub_mul c i es
        have := Nat.mul_le_mul_right es (show i ≤ c by omega)
        omega) (by omega)
      have e : (List.drop (i * es) ((cs.drop off).take (l * es))).take ((h - i) * es) = (cs.drop (off + i * es)).take ((h - i) * es) := by
        rw [List.drop_take, List.take_take, List.drop_drop]
        congr 1
        have := Nat.sub_mul h i es
        have := Nat.mul_le_mul_right es hih
        have := Nat.mul_le_mul_right es hhl
        omega
      rw [e]
      exact h4
theorem op1_sliceR {es : Nat} {x : NOpd} {lo hi : Option NOpd} {a : Option Addr} {l c i h : Nat} {xs : List Value} {o : List Nat} (hw : wantedF g T = true) (hx : x.evF T = .slice a l c) (hO : RdS H es (.slice a l c) xs o)
    (hb : sliceBnds l c (lo.map (·.evF T)) (hi.map (·.evF T)) none = some (i, h, c)) (hih : i ≤ h) (hhl : h ≤ l)
    (kk : ∀ a' c', RdS H es (.slice a' (h - i) c') ((xs.drop (i * es)).take ((h - i) * es)) o → K (upd T d (.slice a' (h - i) c')) H) : op1 C ⟨some d, .slice es x lo hi none, g⟩ T H K := by
  cases hO with
  | nil =>
    have e : h - i = 0 := by omega
    refine op1_sliceNil hw hx hb ?_
    have := kk none 0
    rw [e] at this
    simp only [List.drop_nil, List.take_nil] at this
    exact this .nil
  | empty a =>
    have e : h - i = 0 := by omega
    refine op1_slice0 hw hx hb ?_
    have := kk (some a) 0
    rw [e] at this
    simp only [List.drop_nil, List.take_nil] at this
    exact this (.empty a)
  | @blk b off l c cs e ro hg hc he hl =>
    by_cases h0 : c = 0
    · subst h0
      have e : h - i = 0 := by omega
      have e2 : l = 0 := by omega
      subst e2
      have e3 : i = 0 := by omega
      subst e3
      have e4 : h = 0 := by omega
      subst e4
      refine op1_slice0 hw hx hb ?_
      have := kk (some ⟨b, off, none⟩) 0
      refine this ?_
      have h4 := RdS.blk (l := 0) (c := 0) (H := H) (es := es) (b := b) (off := off) hg (by omega) he (Nat.le_refl _)
      simpa using h4
    · refine op1_slice hw hx h0 hb hg he (kk (some ⟨b, off + i * es, none⟩) (c - i) ?_)
      have hm1 := Nat.sub_mul h i es
      have hm2 := Nat.mul_le_mul_right es hih
      have hm3 := Nat.mul_le_mul_right es hhl
      have h4 := RdS.blk (H := H) (es := es) (b := b) (off := off + i * es) (l := h - i) (c := c - i) hg (by omega) he (by omega)
      have e : (List.drop (i * es) ((cs.drop off).take (l * es))).take ((h - i) * es) = (cs.drop (off + i * es)).take ((h - i) * es) := by
        rw [List.drop_take, List.take_take, List.drop_drop]
        congr 1
        omega
      rw [e]
      exact h4
theorem SlO.hob {H : AHeap} {es : Nat} {v : Value} {xs : List Value} {o : List Nat} (h : SlO H es v xs o) : o = [] ∨ ∃ b cs, o = [b] ∧ H.get b = .cells cs es false := by
  cases h with
  | nil => exact .inl rfl
  | blk hg hc hl => exact .inr ⟨_, _, rfl, hg⟩
end
end Go.E
