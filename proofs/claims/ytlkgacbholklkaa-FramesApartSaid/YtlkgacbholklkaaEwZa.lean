/-
  THE EVALUATOR, PART ZA: a call's arguments, whatever slices they have, laid into the first heap as blocks that are only read.
-/
import Derived.Test.YtlkgacbholklkaaEwZ
import Derived.OpenShut
import Derived.DataReads
set_option linter.unusedSimpArgs false
set_option linter.unusedVariables false
namespace Go.E
open Go
variable {P : Program}
structure St (w : World) (gs : List AObj) (ms : List Emb) : Prop where
  len : ms.length = gs.length
  ro : ∀ o ∈ gs, o.writable = false
  obj : ∀ (b : Nat) o m, gs[b]? = some o → ms[b]? = some m → ObjR (fun b => ms[b]?) m w o

def contig (P : Program) : List Field → Nat → Nat → Bool
  | [], off, tot => off == tot
  | f :: fs, off, tot => f.offset == off && contig P fs (off + P.cellsOf f.type) tot

def layT (P : Program) : Nat → TypeId → Bool
  | 0, _ => false
  | n + 1, t => match P.underlying t with
    | some .bool | some (.int _) | some .string => true
    | some (.slice e) => decide (0 < P.cellsOf e) && layT P n e
    | some (.struct fs) => contig P fs.toList 0 (P.cellsOf t) && fs.toList.all fun f => layT P n f.type
    | some (.array m e) => m * P.cellsOf e == P.cellsOf t && layT P n e
    | _ => false

def OkA (P : Program) (gs : List AObj) : Nat → TypeId → List Value → Prop
  | 0, _, _ => False
  | n + 1, t, vs => match P.underlying t with
    | some .bool => ∃ b, vs = [.bool b]
    | some (.int k) => ∃ i, vs = [.int k i] ∧ (Lit.int k i).wf = true
    | some .string => ∃ s : ByteArray, vs = [.string s] ∧ s.size ≤ maxLen
    | some (.slice e) => vs = [.slice none 0 0] ∨ (∃ b c, vs = [.slice (some ⟨b, 0, none⟩) 0 0] ∧ gs[b]? = some c) ∨ ∃ b l c cells, vs = [.slice (some ⟨b, 0, none⟩) l c] ∧ l ≤ c ∧ c ≤ maxLen ∧ gs[b]? = some (.cells cells 0 true) ∧ cells.length = l * P.cellsOf e ∧
        ∀ i, i < l → OkA P gs n e ((cells.drop (i * P.cellsOf e)).take (P.cellsOf e))
    | some (.struct fs) => vs.length = P.cellsOf t ∧ ∀ f ∈ fs.toList, OkA P gs n f.type ((vs.drop f.offset).take (P.cellsOf f.type))
    | some (.array m e) => vs.length = P.cellsOf t ∧ ∀ i, i < m → OkA P gs n e ((vs.drop (i * P.cellsOf e)).take (P.cellsOf e))
    | _ => False

theorem get_prefix {α : Type} {a b : List α} {i : Nat} {x : α} (h : a[i]? = some x) : (a ++ b)[i]? = some x := by
  have := (List.getElem?_eq_some_iff.1 h).1
  rw [List.getElem?_append_left this, h]

theorem OkA.mono {gs gs' : List AObj} : ∀ (n : Nat) (t : TypeId) (vs : List Value), OkA P gs n t vs → OkA P (gs ++ gs') n t vs
  | 0, _, _, h => h
  | n + 1, t, vs, h => by
    unfold OkA at h ⊢
    split at h <;> try exact h
    · rcases h with h | ⟨b, c, h, k⟩ | ⟨b, l, c, cells, h1, h2, hm, h4, h5, h6⟩
      · exact .inl h
      · exact .inr (.inl ⟨b, c, h, get_prefix k⟩)
      · exact .inr (.inr ⟨b, l, c, cells, h1, h2, hm, get_prefix h4, h5, fun i hi => OkA.mono n _ _ (h6 i hi)⟩)
    · exact ⟨h.1, fun f hf => OkA.mono n _ _ (h.2 f hf)⟩
    · exact ⟨h.1, fun i hi => OkA.mono n _ _ (h.2 i hi)⟩

theorem phi_le (ms ms' : List Emb) : Phi.le (fun b => ms[b]?) (fun b => (ms ++ ms')[b]?) := fun b m h => get_prefix h

theorem St.push {w : World} {gs : List AObj} {ms : List Emb} (h : St w gs ms) {o : AObj} {m : Emb} (hro : o.writable = false) (ho : ObjR (fun b => (ms ++ [m])[b]?) m w o) : St w (gs ++ [o]) (ms ++ [m]) where
  len := by simp [h.len]
  ro o' ho' := by
    simp only [List.mem_append, List.mem_singleton] at ho'
    rcases ho' with ho' | rfl
    · exact h.ro o' ho'
    · exact hro
  obj b o' m' hb hm := by
    by_cases hl : b < gs.length
    · rw [List.getElem?_append_left hl] at hb
      rw [List.getElem?_append_left (by rw [h.len]; exact hl)] at hm
      exact (h.obj b o' m' hb hm).mono (phi_le ms [m]) rfl
    · have hl2 := (List.getElem?_eq_some_iff.1 hb).1
      simp only [List.length_append, List.length_cons, List.length_nil] at hl2
      obtain rfl : b = gs.length := by omega
      rw [List.getElem?_append_right (Nat.le_refl _), Nat.sub_self] at hb
      rw [List.getElem?_append_right (by rw [h.len]; exact Nat.le_refl _), h.len, Nat.sub_self] at hm
      cases hb; cases hm
      exact ho

section
variable {X : Type} {enc : TypeId × Value → X} {w : World} {base : Nat} {sp : Nat → Bool} {held : Bool}
def Laid1 (P : Program) (w : World) (n : Nat) (gs : List AObj) (ms : List Emb) (t : TypeId) (cs : List Value) : Prop :=
  ∃ gs' ms' vs, St w (gs ++ gs') (ms ++ ms') ∧ VRs (fun b => (ms ++ ms')[b]?) vs cs ∧ OkA P (gs ++ gs') n t vs ∧ ∀ v ∈ vs, v.oneCell' = true

theorem lay_parts {n : Nat} (ih : ∀ t cs gs ms, layT P n t = true → St w gs ms → (∃ fuel x, DataW.trod enc P w base sp held fuel t cs = some x) → Laid1 P w n gs ms t cs) :
    ∀ (parts : List (TypeId × List Value)) (gs : List AObj) (ms : List Emb), St w gs ms → (∀ x ∈ parts, layT P n x.1 = true ∧ ∃ fuel d, DataW.trod enc P w base sp held fuel x.1 x.2 = some d) →
      ∃ (gs' : List AObj) (ms' : List Emb) (vss : List (List Value)), St w (gs ++ gs') (ms ++ ms') ∧ vss.length = parts.length ∧ ∀ (i : Nat) t cs, parts[i]? = some (t, cs) → ∃ vs, vss[i]? = some vs ∧ VRs (fun b => (ms ++ ms')[b]?) vs cs ∧ OkA P (gs ++ gs') n t vs ∧ ∀ v ∈ vs, v.oneCell' = true
  | [], gs, ms, hs, _ => ⟨[], [], [], by simpa using hs, rfl, fun i t cs h => by simp at h⟩
  | (t, cs) :: r, gs, ms, hs, hp => by
    obtain ⟨h1, h2⟩ := hp (t, cs) (by simp)
    obtain ⟨g1, m1, vs, hs1, hv1, ho1, hn1⟩ := ih t cs gs ms h1 hs h2
    obtain ⟨g2, m2, vss, hs2, hl2, hv2⟩ := lay_parts ih r _ _ hs1 (fun x hx => hp x (by simp [hx]))
    refine ⟨g1 ++ g2, m1 ++ m2, vs :: vss, by rw [← List.append_assoc, ← List.append_assoc]; exact hs2, by simp [hl2], fun i t' cs' hi => ?_⟩
    cases i with
    | zero =>
      simp only [List.getElem?_cons_zero, Option.some.injEq, Prod.mk.injEq] at hi
      obtain ⟨rfl, rfl⟩ := hi
      refine ⟨vs, rfl, ?_, ?_, hn1⟩
      · rw [← List.append_assoc]; exact hv1.mono (phi_le _ _)
      · rw [← List.append_assoc]; exact OkA.mono _ _ _ ho1
    | succ i =>
      obtain ⟨vs', h3, h4, h5, h6⟩ := hv2 i t' cs' (by simpa using hi)
      refine ⟨vs', by simpa using h3, ?_, ?_, h6⟩
      · rw [← List.append_assoc]; exact h4
      · rw [← List.append_assoc]; exact h5

theorem flat_cut {α : Type} (sz : Nat) : ∀ (vss : List (List α)), (∀ v ∈ vss, v.length = sz) → ∀ (i : Nat) v, vss[i]? = some v → (vss.flatten.drop (i * sz)).take sz = v
  | [], _, i, v, h => by simp at h
  | u :: r, hl, 0, v, h => by
    simp only [List.getElem?_cons_zero, Option.some.injEq] at h
    subst h
    have := hl u (by simp)
    simp only [List.flatten_cons, Nat.zero_mul, List.drop_zero]
    rw [List.take_append_of_le_length (by omega), List.take_of_length_le (by omega)]
  | u :: r, hl, i + 1, v, h => by
    have hu := hl u (by simp)
    have ih := flat_cut sz r (fun v hv => hl v (by simp [hv])) i v (by simpa using h)
    simp only [List.flatten_cons]
    have e : (i + 1) * sz = u.length + i * sz := by rw [Nat.add_mul, Nat.one_mul, hu, Nat.add_comm]
    rw [e, ← List.drop_drop, List.drop_left]
    exact ih

theorem flat_len {α : Type} (sz : Nat) : ∀ (vss : List (List α)), (∀ v ∈ vss, v.length = sz) → vss.flatten.length = vss.length * sz
  | [], _ => by simp
  | u :: r, hl => by
    simp only [List.flatten_cons, List.length_append, List.length_cons]
    rw [flat_len sz r fun v hv => hl v (by simp [hv]), hl u (by simp), Nat.add_mul, Nat.one_mul, Nat.add_comm]

theorem flat_get {α : Type} {sz : Nat} {vss : List (List α)} (hl : ∀ v ∈ vss, v.length = sz) {k : Nat} {x : α} (h : vss.flatten[k]? = some x) : ∃ i j v, k = i * sz + j ∧ j < sz ∧ vss[i]? = some v ∧ v[j]? = some x := by
  have hk := (List.getElem?_eq_some_iff.1 h).1
  rw [flat_len sz vss hl] at hk
  have hsz : 0 < sz := by
    rcases Nat.eq_zero_or_pos sz with h0 | h0
    · subst h0; simp at hk
    · exact h0
  have hi : k / sz < vss.length := (Nat.div_lt_iff_lt_mul hsz).2 hk
  refine ⟨k / sz, k % sz, vss[k / sz], (Nat.div_add_mod' k sz).symm, Nat.mod_lt _ hsz, by simp [hi], ?_⟩
  have hc := flat_cut sz vss hl (k / sz) vss[k / sz] (by simp [hi])
  rw [← hc, List.getElem?_take, if_pos (Nat.mod_lt _ hsz), List.getElem?_drop, Nat.div_add_mod']
  exact h

theorem parts_all {n : Nat} {φ : Phi} {gs : List AObj} {parts : List (TypeId × List Value)} {vss : List (List Value)} (hl : vss.length = parts.length)
    (h : ∀ (i : Nat) t cs, parts[i]? = some (t, cs) → ∃ vs, vss[i]? = some vs ∧ VRs φ vs cs ∧ OkA P gs n t vs ∧ ∀ v ∈ vs, v.oneCell' = true) {i : Nat} {vs : List Value} (hi : vss[i]? = some vs) :
    ∃ t cs, parts[i]? = some (t, cs) ∧ VRs φ vs cs ∧ OkA P gs n t vs ∧ ∀ v ∈ vs, v.oneCell' = true := by
  have h1 := (List.getElem?_eq_some_iff.1 hi).1
  obtain ⟨⟨t, cs⟩, hp⟩ : ∃ x, parts[i]? = some x := ⟨parts[i]'(by omega), by simp⟩
  obtain ⟨vs', h2, h3⟩ := h i t cs hp
  rw [hi] at h2
  cases h2
  exact ⟨t, cs, hp, h3⟩

theorem VRs.flatten {φ : Phi} : ∀ {a b : List (List Value)}, a.length = b.length → (∀ (i : Nat) x y, a[i]? = some x → b[i]? = some y → VRs φ x y) → VRs φ a.flatten b.flatten
  | [], [], _, _ => .nil
  | [], _ :: _, h, _ => by simp at h
  | _ :: _, [], h, _ => by simp at h
  | x :: a, y :: b, h, k => by
    simp only [List.flatten_cons]
    exact (k 0 x y rfl rfl).append (VRs.flatten (by simpa using h) fun i u v hu hv => k (i + 1) u v (by simpa using hu) (by simpa using hv))

theorem contig_flat : ∀ (fs : List Field) (off tot : Nat) (cs : List Value), contig P fs off tot = true → cs.length = tot → off ≤ tot ∧ (fs.map fun f => (cs.drop f.offset).take (P.cellsOf f.type)).flatten = cs.drop off ∧ ∀ f ∈ fs, off ≤ f.offset ∧ f.offset + P.cellsOf f.type ≤ tot
  | [], off, tot, cs, h, hl => by
    simp only [contig, beq_iff_eq] at h
    subst h
    exact ⟨Nat.le_refl _, by simp [hl], fun f hf => by simp at hf⟩
  | f :: fs, off, tot, cs, h, hl => by
    simp only [contig, Bool.and_eq_true, beq_iff_eq] at h
    obtain ⟨ho, h⟩ := h
    obtain ⟨h1, h2, h3⟩ := contig_flat fs _ tot cs h hl
    refine ⟨by omega, ?_, ?_⟩
    · simp only [List.map_cons, List.flatten_cons]
      rw [h2, ho, ← List.drop_drop, List.take_append_drop]
    · intro g hg
      rcases List.mem_cons.1 hg with rfl | hg
      · omega
      · have := h3 g hg; omega

theorem contig_cut : ∀ (fs : List Field) (off tot : Nat) (vss : List (List Value)), contig P fs off tot = true → vss.length = fs.length → (∀ (i : Nat) f v, fs[i]? = some f → vss[i]? = some v → v.length = P.cellsOf f.type) →
    vss.flatten.length = tot - off ∧ ∀ (i : Nat) f v, fs[i]? = some f → vss[i]? = some v → (vss.flatten.drop (f.offset - off)).take (P.cellsOf f.type) = v ∧ off ≤ f.offset
  | [], off, tot, vss, h, hl, _ => by
    simp only [contig, beq_iff_eq] at h
    have : vss = [] := List.eq_nil_of_length_eq_zero (by simpa using hl)
    subst this
    exact ⟨by simp [h], fun i f v hf => by simp at hf⟩
  | f :: fs, off, tot, [], h, hl, _ => by simp at hl
  | f :: fs, off, tot, u :: vss, h, hl, hz => by
    simp only [contig, Bool.and_eq_true, beq_iff_eq] at h
    obtain ⟨ho, h⟩ := h
    have hu := hz 0 f u rfl rfl
    obtain ⟨h1, h2⟩ := contig_cut fs _ tot vss h (by simpa using hl) fun i g v hg hv => hz (i + 1) g v (by simpa using hg) (by simpa using hv)
    have hle : off + P.cellsOf f.type ≤ tot := (contig_flat fs _ tot (List.replicate tot undef) h (by simp)).1
    refine ⟨by simp only [List.flatten_cons, List.length_append, h1, hu]; omega, fun i g v hg hv => ?_⟩
    cases i with
    | zero =>
      simp only [List.getElem?_cons_zero, Option.some.injEq] at hg hv
      subst hg; subst hv
      rw [ho, Nat.sub_self, List.drop_zero, List.flatten_cons, List.take_append_of_le_length (by omega), List.take_of_length_le (by omega)]
      exact ⟨rfl, Nat.le_refl _⟩
    | succ i =>
      obtain ⟨h3, h4⟩ := h2 i g v (by simpa using hg) (by simpa using hv)
      have e : g.offset - off = u.length + (g.offset - (off + P.cellsOf f.type)) := by omega
      rw [e, List.flatten_cons, ← List.drop_drop, List.drop_left]
      exact ⟨h3, by omega⟩

theorem cellsOk {w : World} {a : Addr} {n : Nat} {cs : List Value} (hn : 0 < n) (h : w.cells? base a n = some cs) : a.spot = none ∧ ∃ C el fr, w.heap[a.block]? = some (.cells C el fr) ∧ ∀ j, j < n → C[a.off + j]? = cs[j]? := by
  obtain ⟨_, hl, hc⟩ := World.cells?_some h
  have h0 := hc 0 hn
  have hcs : ∃ v, cs[0]? = some v := ⟨cs[0]'(by omega), by simp⟩
  obtain ⟨v0, hv0⟩ := hcs
  rw [hv0] at h0
  simp only [World.cell?, Addr.add, if_true] at h0
  split at h0
  · rename_i C el fr hb
    split at h0
    · cases h0
    · rename_i hsp
      refine ⟨by simpa using hsp, C, el, fr, hb, fun j hj => ?_⟩
      have := hc j hj
      rw [← this]
      simp only [World.cell?, Addr.add]
      by_cases hj0 : j = 0
      · subst hj0; simp [hb, hsp]
      · simp [hj0, hb]
  · cases h0

theorem lay (hsp : ∀ b, sp b = true) : ∀ (n : Nat) (t : TypeId) (cs : List Value) (gs : List AObj) (ms : List Emb), layT P n t = true → St w gs ms → (∃ fuel x, DataW.trod enc P w base sp held fuel t cs = some x) → Laid1 P w n gs ms t cs
  | 0, _, _, _, _, h, _, _ => by simp [layT] at h
  | n + 1, t, cs, gs, ms, hT, hs, ⟨fuel, x, hx⟩ => by
    have ih := lay hsp n
    unfold layT at hT
    split at hT
    · rename_i hu
      obtain ⟨b, rfl, _⟩ := DataW.trod_bool hu hx
      exact ⟨[], [], [.bool b], by simpa using hs, .cons (.bool b) .nil, by unfold OkA; rw [hu]; exact ⟨b, rfl⟩, by simp [Value.oneCell']⟩
    · rename_i k hu
      obtain ⟨i, rfl, _, hw⟩ := DataW.trod_int hu hx
      exact ⟨[], [], [.int k i], by simpa using hs, .cons (.int k i) .nil, by unfold OkA; rw [hu]; exact ⟨i, rfl, hw⟩, by simp [Value.oneCell']⟩
    · rename_i hu
      obtain ⟨s, rfl, _, hw⟩ := DataW.trod_string hu hx
      exact ⟨[], [], [.string s], by simpa using hs, .cons (.str s) .nil, by unfold OkA; rw [hu]; exact ⟨s, rfl, hw⟩, by simp [Value.oneCell']⟩
    · rename_i e hu
      simp only [Bool.and_eq_true, decide_eq_true_eq] at hT
      obtain ⟨hsz, hT⟩ := hT
      rcases DataW.trod_slice hu hx with ⟨rfl, _⟩ | ⟨a, len, cap, elems, rest, m, rfl, rfl, _, hb, hlc, hcm, hel, hE, hR, _⟩
      · exact ⟨[], [], [.slice none 0 0], by simpa using hs, .cons .slNil .nil, by unfold OkA; rw [hu]; exact .inl rfl, by simp [Value.oneCell']⟩
      · by_cases hcap : cap = 0
        · subst hcap
          obtain rfl : len = 0 := by omega
          refine ⟨[.dead], [⟨a.block, 0, 0, 0, 0⟩], [.slice (some ⟨gs.length, 0, none⟩) 0 0], hs.push rfl trivial, .cons (.slEmpty 0 a (m := ⟨a.block, 0, 0, 0, 0⟩) (by rw [← hs.len]; simp)) .nil, ?_, by simp [Value.oneCell']⟩
          unfold OkA; rw [hu]
          exact .inr (.inl ⟨gs.length, .dead, rfl, by simp⟩)
        · -- the block that it lies in
          have hrow : ∀ i, i < cap → ∃ row y, w.cells? base (a.add (i * P.cellsOf e)) (P.cellsOf e) = some row ∧ DataW.trod enc P w base sp held m e row = some y := by
            intro i hi
            by_cases hil : i < len
            · have h1 := hE i hil
              obtain ⟨y, hy⟩ : ∃ y, elems[i]? = some y := ⟨elems[i]'(by omega), by simp⟩
              rw [hy, Option.bind_eq_some_iff] at h1
              obtain ⟨row, h2, h3⟩ := h1
              exact ⟨row, y, h2, h3⟩
            · obtain ⟨hrl, h1⟩ := hR (hsp _)
              have h1 := h1 (i - len) (by omega)
              obtain ⟨y, hy⟩ : ∃ y, rest[i - len]? = some y := ⟨rest[i - len]'(by omega), by simp⟩
              rw [hy, Option.bind_eq_some_iff, show len + (i - len) = i by omega] at h1
              obtain ⟨row, h2, h3⟩ := h1
              exact ⟨row, y, h2, h3⟩
          obtain ⟨row0, _, h00, _⟩ := hrow 0 (by omega)
          rw [Nat.zero_mul] at h00
          obtain ⟨hspot, C, el, fr, hheap, _⟩ := cellsOk (a := a.add 0) hsz h00
          have ha0 : a.add 0 = a := rfl
          rw [ha0] at hspot hheap
          obtain ⟨blk, off, spot⟩ := a
          simp only at hspot hheap
          subst hspot
          let row (i : Nat) : List Value := (w.cells? base (Addr.add ⟨blk, off, none⟩ (i * P.cellsOf e)) (P.cellsOf e)).getD []
          have hrow2 : ∀ i, i < len → (row i).length = P.cellsOf e ∧ (∃ y, DataW.trod enc P w base sp held m e (row i) = some y) ∧ ∀ j, j < P.cellsOf e → C[off + (i * P.cellsOf e + j)]? = (row i)[j]? := by
            intro i hi
            obtain ⟨r, y, h1, h2⟩ := hrow i (by omega)
            have e1 : row i = r := by simp only [row, h1, Option.getD_some]
            obtain ⟨_, C', el', fr', h3, h4⟩ := cellsOk hsz h1
            have hbk : (Addr.add ⟨blk, off, none⟩ (i * P.cellsOf e)).block = blk ∧ (Addr.add ⟨blk, off, none⟩ (i * P.cellsOf e)).off = off + i * P.cellsOf e := by
              unfold Addr.add
              split
              · rename_i h0; rw [h0]; exact ⟨rfl, rfl⟩
              · exact ⟨rfl, rfl⟩
            rw [hbk.1, hheap] at h3
            cases h3
            rw [hbk.2] at h4
            rw [e1]
            exact ⟨(World.cells?_some h1).2.1, ⟨y, h2⟩, fun j hj => by rw [← Nat.add_assoc]; exact h4 j hj⟩
          obtain ⟨g1, m1, vss, hs1, hl1, hv1⟩ := lay_parts (enc := enc) (sp := sp) (held := held) (base := base) ih ((List.range len).map fun i => (e, row i)) gs ms hs (fun x hx => by
            simp only [List.mem_map, List.mem_range] at hx
            obtain ⟨i, hi, rfl⟩ := hx
            obtain ⟨y, hy⟩ := (hrow2 i hi).2.1
            exact ⟨hT, m, y, hy⟩)
          have hlv : vss.length = len := by simpa using hl1
          have hvi : ∀ i v, vss[i]? = some v → i < len ∧ VRs (fun b => (ms ++ m1)[b]?) v (row i) ∧ OkA P (gs ++ g1) n e v ∧ ∀ u ∈ v, u.oneCell' = true := by
            intro i v hi
            obtain ⟨t', cs', h1, h2⟩ := parts_all hl1 hv1 hi
            have hil : i < len := by have := (List.getElem?_eq_some_iff.1 hi).1; omega
            simp [hil] at h1
            obtain ⟨rfl, rfl⟩ := h1
            exact ⟨hil, h2⟩
          have hvl : ∀ v ∈ vss, v.length = P.cellsOf e := by
            intro v hv
            obtain ⟨i, hi⟩ := List.mem_iff_getElem?.1 hv
            obtain ⟨h1, h2, _⟩ := hvi i v hi
            rw [h2.length, (hrow2 i h1).1]
          have hfl := flat_len (P.cellsOf e) vss hvl
          rw [hlv] at hfl
          have hone : ∀ v ∈ vss.flatten, v.oneCell' = true := by
            intro v hv
            obtain ⟨u, hu', hv'⟩ := List.mem_flatten.1 hv
            obtain ⟨i, hi⟩ := List.mem_iff_getElem?.1 hu'
            exact (hvi i u hi).2.2.2 v hv'
          have hsize : off + len * P.cellsOf e ≤ C.size := by
            rcases Nat.eq_zero_or_pos len with h0 | h0
            · subst h0
              obtain ⟨_, _, h4, _⟩ := hrow 0 (by omega)
              rw [Nat.zero_mul] at h4
              obtain ⟨_, C', el', fr', h5, h6⟩ := cellsOk (a := Addr.add ⟨blk, off, none⟩ 0) hsz h4
              have hbk : (Addr.add ⟨blk, off, none⟩ 0).block = blk := rfl
              rw [hbk, hheap] at h5
              cases h5
              have h7 := h6 0 hsz
              obtain ⟨_, hrl, _⟩ := World.cells?_some h4
              rw [List.getElem?_eq_getElem (by omega)] at h7
              have := (Array.getElem?_eq_some_iff.1 h7).1
              simp only [Addr.add, if_true] at this
              omega
            · obtain ⟨h1, _, h3⟩ := hrow2 (len - 1) (by omega)
              have h7 := h3 (P.cellsOf e - 1) (by omega)
              rw [List.getElem?_eq_getElem (by omega)] at h7
              have h8 := (Array.getElem?_eq_some_iff.1 h7).1
              have h9 : len * P.cellsOf e = (len - 1) * P.cellsOf e + P.cellsOf e := by
                have : len = (len - 1) + 1 := by omega
                conv => lhs; rw [this, Nat.add_mul, Nat.one_mul]
              omega
          have hL1 := hs1.len
          refine ⟨g1 ++ [.cells vss.flatten 0 true], m1 ++ [⟨blk, off, len * P.cellsOf e, len * P.cellsOf e, 0⟩], [.slice (some ⟨(gs ++ g1).length, 0, none⟩) len cap], ?_, ?_, ?_, by simp [Value.oneCell']⟩
          · rw [← List.append_assoc, ← List.append_assoc]
            refine hs1.push rfl ⟨hfl, Nat.le_refl _, rfl, hone, C, el, fr, hheap, hsize, fun k v hk => ?_, fun h => by cases h⟩
            obtain ⟨i, j, u, rfl, hj, hi, hju⟩ := flat_get hvl hk
            obtain ⟨h1, h2, _⟩ := hvi i u hi
            obtain ⟨v', h3, h4⟩ := h2.get j v hju
            refine ⟨v', ?_, h4.mono (phi_le _ _)⟩
            rw [(hrow2 i h1).2.2 j hj]
            exact h3
          · refine .cons ?_ .nil
            have := VR.sl (φ := fun b => (ms ++ (m1 ++ [⟨blk, off, len * P.cellsOf e, len * P.cellsOf e, 0⟩]))[b]?) (b := (gs ++ g1).length) (m := ⟨blk, off, len * P.cellsOf e, len * P.cellsOf e, 0⟩) (o := 0) (l := len) (c := cap) (c' := cap) (by
              rw [← List.append_assoc, ← hL1]; simp) hlc (.inl rfl)
            exact this
          · unfold OkA; rw [hu]
            refine .inr (.inr ⟨(gs ++ g1).length, len, cap, vss.flatten, rfl, hlc, hcm, by rw [← List.append_assoc]; simp, hfl, fun i hi => ?_⟩)
            obtain ⟨v, hv⟩ : ∃ v, vss[i]? = some v := ⟨vss[i]'(by omega), by simp⟩
            rw [flat_cut _ vss hvl i v hv, ← List.append_assoc]
            exact OkA.mono _ _ _ (hvi i v hv).2.2.1
    · rename_i fs hu
      simp only [Bool.and_eq_true, List.all_eq_true] at hT
      obtain ⟨hcon, hT⟩ := hT
      obtain ⟨xs, m, _, _, hcl, hxl, hxs⟩ := DataW.trod_struct hu hx
      obtain ⟨_, hflat, hin⟩ := contig_flat fs.toList 0 _ cs hcon hcl
      rw [List.drop_zero] at hflat
      obtain ⟨g1, m1, vss, hs1, hl1, hv1⟩ := lay_parts (enc := enc) (sp := sp) (held := held) (base := base) ih (fs.toList.map fun f => (f.type, (cs.drop f.offset).take (P.cellsOf f.type))) gs ms hs (fun x hx => by
        simp only [List.mem_map] at hx
        obtain ⟨f, hf, rfl⟩ := hx
        obtain ⟨i, hi⟩ := List.mem_iff_getElem?.1 hf
        have h1 := hxs i f (by simpa using hi)
        have h2 := (List.getElem?_eq_some_iff.1 hi).1
        rw [List.getElem?_eq_getElem (by simp at h2; omega)] at h1
        exact ⟨hT f hf, m, _, h1⟩)
      have hl1' : vss.length = fs.toList.length := by simpa using hl1
      have hvi : ∀ (i : Nat) f v, fs.toList[i]? = some f → vss[i]? = some v → VRs (fun b => (ms ++ m1)[b]?) v ((cs.drop f.offset).take (P.cellsOf f.type)) ∧ OkA P (gs ++ g1) n f.type v ∧ ∀ u ∈ v, u.oneCell' = true := by
        intro i f v hf hv
        obtain ⟨v', h1, h2⟩ := hv1 i f.type _ (by rw [List.getElem?_map, hf]; rfl)
        rw [hv] at h1
        cases h1
        exact h2
      have hlen : ∀ (i : Nat) f v, fs.toList[i]? = some f → vss[i]? = some v → v.length = P.cellsOf f.type := by
        intro i f v hf hv
        rw [(hvi i f v hf hv).1.length]
        have := hin f (List.mem_of_getElem? hf)
        simp only [List.length_take, List.length_drop]; omega
      obtain ⟨hfl, hcut⟩ := contig_cut fs.toList 0 _ vss hcon hl1' hlen
      refine ⟨g1, m1, vss.flatten, hs1, ?_, ?_, ?_⟩
      · rw [← hflat]
        refine VRs.flatten (by simpa using hl1') fun i x y hx hy => ?_
        rw [List.getElem?_map] at hy
        cases hf : fs.toList[i]? with
        | none => rw [hf] at hy; cases hy
        | some f => rw [hf] at hy; cases hy; exact (hvi i f x hf hx).1
      · unfold OkA; rw [hu]
        refine ⟨by rw [hfl, Nat.sub_zero], fun f hf => ?_⟩
        obtain ⟨i, hi⟩ := List.mem_iff_getElem?.1 hf
        have h2 := (List.getElem?_eq_some_iff.1 hi).1
        obtain ⟨v, hv⟩ : ∃ v, vss[i]? = some v := ⟨vss[i]'(by omega), by simp⟩
        obtain ⟨h3, _⟩ := hcut i f v hi hv
        rw [Nat.sub_zero] at h3
        rw [h3]
        exact (hvi i f v hi hv).2.1
      · intro v hv
        obtain ⟨u, hu', hv'⟩ := List.mem_flatten.1 hv
        obtain ⟨i, hi⟩ := List.mem_iff_getElem?.1 hu'
        have h2 := (List.getElem?_eq_some_iff.1 hi).1
        exact (hvi i (fs.toList[i]'(by omega)) u (by simp) hi).2.2 v hv'
    · rename_i k e hu
      simp only [Bool.and_eq_true, beq_iff_eq] at hT
      obtain ⟨hsz, hT⟩ := hT
      obtain ⟨xs, m, _, _, hcl, hxl, hxs⟩ := DataW.trod_array hu hx
      obtain ⟨g1, m1, vss, hs1, hl1, hv1⟩ := lay_parts (enc := enc) (sp := sp) (held := held) (base := base) ih ((List.range k).map fun i => (e, (cs.drop (i * P.cellsOf e)).take (P.cellsOf e))) gs ms hs (fun x hx => by
        simp only [List.mem_map, List.mem_range] at hx
        obtain ⟨i, hi, rfl⟩ := hx
        have h1 := hxs i hi
        rw [List.getElem?_eq_getElem (by omega)] at h1
        exact ⟨hT, m, _, h1⟩)
      have hlv : vss.length = k := by simpa using hl1
      have hvi : ∀ i v, vss[i]? = some v → i < k ∧ VRs (fun b => (ms ++ m1)[b]?) v ((cs.drop (i * P.cellsOf e)).take (P.cellsOf e)) ∧ OkA P (gs ++ g1) n e v ∧ ∀ u ∈ v, u.oneCell' = true := by
        intro i v hi
        obtain ⟨t', cs', h1, h2⟩ := parts_all hl1 hv1 hi
        have hil : i < k := by have := (List.getElem?_eq_some_iff.1 hi).1; omega
        simp [hil] at h1
        obtain ⟨rfl, rfl⟩ := h1
        exact ⟨hil, h2⟩
      have hvl : ∀ v ∈ vss, v.length = P.cellsOf e := by
        intro v hv
        obtain ⟨i, hi⟩ := List.mem_iff_getElem?.1 hv
        obtain ⟨h1, h2, _⟩ := hvi i v hi
        rw [h2.length]
        have h3 : (i + 1) * P.cellsOf e ≤ k * P.cellsOf e := Nat.mul_le_mul_right _ h1
        rw [Nat.add_mul, Nat.one_mul] at h3
        simp only [List.length_take, List.length_drop]; omega
      have hfl := flat_len (P.cellsOf e) vss hvl
      rw [hlv] at hfl
      refine ⟨g1, m1, vss.flatten, hs1, ?_, ?_, ?_⟩
      · refine VRs.of (by rw [hfl, hcl, hsz]) fun q v hq => ?_
        obtain ⟨i, j, u, rfl, hj, hi, hju⟩ := flat_get hvl hq
        obtain ⟨h1, h2, _⟩ := hvi i u hi
        obtain ⟨v', h3, h4⟩ := h2.get j v hju
        refine ⟨v', ?_, h4⟩
        rw [List.getElem?_take, if_pos hj, List.getElem?_drop] at h3
        exact h3
      · unfold OkA; rw [hu]
        refine ⟨by rw [hfl, hsz], fun i hi => ?_⟩
        obtain ⟨v, hv⟩ : ∃ v, vss[i]? = some v := ⟨vss[i]'(by omega), by simp⟩
        rw [flat_cut _ vss hvl i v hv]
        exact (hvi i v hv).2.2.1
      · intro v hv
        obtain ⟨u, hu', hv'⟩ := List.mem_flatten.1 hv
        obtain ⟨i, hi⟩ := List.mem_iff_getElem?.1 hu'
        exact (hvi i u hi).2.2.2 v hv'
    · cases hT
end
end Go.E
