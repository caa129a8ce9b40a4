/-
  THE EVALUATOR, PART ZA: a call's arguments, whatever slices they have, laid into the first heap as blocks that are only read.
-/
import Derived.Test.YtamcfhhcmjagnaaEhZ
import Derived.OpenShut
import Derived.DataReads
set_option linter.unusedSimpArgs false
set_option linter.unusedVariables false
namespace Go.E
open Go
variable {P : Program}
structure St (w : World) (gs : List AObj) (ms : List Emb) : Prop where
  len : ms.length = gs.length
  ro : ∀ o ∈ gs, o.writable = false
  obj : ∀ (b : Nat) o m, gs[b]? = some o → ms[b]? = some m → ObjR (fun b => ms[b]?) m w o

def contig (P : Program) : List Field → Nat → Nat → Bool
  | [], off, tot => off == tot
  | f :: fs, off, tot => f.offset == off && contig P fs (off + P.cellsOf f.type) tot

def layT (P : Program) : Nat → TypeId → Bool
  | 0, _ => false
  | n + 1, t => match P.underlying t with
    | some .bool | some (.int _) | some .string => true
    | some (.slice e) => decide (0 < P.cellsOf e) && layT P n e
    | some (.struct fs) => contig P fs.toList 0 (P.cellsOf t) && fs.toList.all fun f => layT P n f.type
    | some (.array m e) => m * P.cellsOf e == P.cellsOf t && layT P n e
    | _ => false

def OkA (P : Program) (gs : List AObj) : Nat → TypeId → List Value → Prop
  | 0, _, _ => False
  | n + 1, t, vs => match P.underlying t with
    | some .bool => ∃ b, vs = [.bool b]
    | some (.int k) => ∃ i, vs = [.int k i] ∧ (Lit.int k i).wf = true
    | some .string => ∃ s : ByteArray, vs = [.string s] ∧ s.size ≤ maxLen
    | some (.slice e) => vs = [.slice none 0 0] ∨ (∃ b c, vs = [.slice (some ⟨b, 0, none⟩) 0 0] ∧ gs[b]? = some c) ∨ ∃ b l c cells, vs = [.slice (some ⟨b, 0, none⟩) l c] ∧ l ≤ c ∧ c ≤ maxLen ∧ gs[b]? = some (.cells cells 0 true) ∧ cells.length = l * P.cellsOf e ∧
        ∀ i, i < l → OkA P gs n e ((cells.drop (i * P.cellsOf e)).take (P.cellsOf e))
    | some (.struct fs) => vs.length = P.cellsOf t ∧ ∀ f ∈ fs.toList, OkA P gs n f.type ((vs.drop f.offset).take (P.cellsOf f.type))
    | some (.array m e) => vs.length = P.cellsOf t ∧ ∀ i, i < m → OkA P gs n e ((vs.drop (i * P.cellsOf e)).take (P.cellsOf e))
    | _ => False

theorem get_prefix {α : Type} {a b : List α} {i : Nat} {x : α} (h : a[i]? = some x) : (a ++ b)[i]? = some x := by
  have := (List.getElem?_eq_some_iff.1 h).1
  rw [List.getElem?_append_left this, h]

theorem OkA.mono {gs gs' : List AObj} : ∀ (n : Nat) (t : TypeId) (vs : List Value), OkA P gs n t vs → OkA P (gs ++ gs') n t vs
  | 0, _, _, h => h
  | n + 1, t, vs, h => by
    unfold OkA at h ⊢
    split at h <;> try exact h
    · rcases h with h | ⟨b, c, h, k⟩ | ⟨b, l, c, cells, h1, h2, hm, h4, h5, h6⟩
      · exact .inl h
      · exact .inr (.inl ⟨b, c, h, get_prefix k⟩)
      · exact .inr (.inr ⟨b, l, c, cells, h1, h2, hm, get_prefix h4, h5, fun i hi => OkA.mono n _ _ (h6 i hi)⟩)
    · exact ⟨h.1, fun f hf => OkA.mono n _ _ (h.2 f hf)⟩
    · exact ⟨h.1, fun i hi => OkA.mono n _ _ (h.2 i hi)⟩

theorem phi_le (ms ms' : List Emb) : Phi.le (fun b => ms[b]?) (fun b => (ms ++ ms')[b]?) := fun b m h => get_prefix h

theorem St.push {w : World} {gs : List AObj} {ms : List Emb} (h : St w gs ms) {o : AObj} {m : Emb} (hro : o.writable = false) (ho : ObjR (fun b => (ms ++ [m])[b]?) m w o) : St w (gs ++ [o]) (ms ++ [m]) where
  len := by simp [h.len]
  ro o' ho' := by
    simp only [List.mem_append, List.mem_singleton] at ho'
    rcases ho' with ho' | rfl
    · exact h.ro o' ho'
    · exact hro
  obj b o' m' hb hm := by
    by_cases hl : b < gs.length
    · rw [List.getElem?_append_left hl] at hb
      rw [List.getElem?_append_left (by rw [h.len]; exact hl)] at hm
      exact (h.obj b o' m' hb hm).mono (phi_le ms [m]) rfl
    · have hl2 := (List.getElem?_eq_some_iff.1 hb).1
      simp only [List.length_append, List.length_cons, List.length_nil] at hl2
      obtain rfl : b = gs.length := by omega
      rw [List.getElem?_append_right (Nat.le_refl _), Nat.sub_self] at hb
      rw [List.getElem?_append_right (by rw [h.len]; exact Nat.le_refl _), h.len, Nat.sub_self] at hm
      cases hb; cases hm
      exact ho

section
variable {X : Type} {enc : TypeId × Value → X} {w : World} {base : Nat} {sp : Nat → Bool} {held : Bool}
theorem flat_cut {α : Type} (sz : Nat) : ∀ (vss : List (List α)), (∀ v ∈ vss, v.length = sz) → ∀ (i : Nat) v, vss[i]? = some v → (vss.flatten.drop (i * sz)).take sz = v
  | [], _, i, v, h => by simp at h
  | u :: r, hl, 0, v, h => by
    simp only [List.getElem?_cons_zero, Option.some.injEq] at h
    subst h
    have := hl u (by simp)
    simp only [List.flatten_cons, Nat.zero_mul, List.drop_zero]
    rw [List.take_append_of_le_length (by omega), List.take_of_length_le (by omega)]
  | u :: r, hl, i + 1, v, h => by
    have hu := hl u (by simp)
    have ih := flat_cut sz r (fun v hv => hl v (by simp [hv])) i v (by simpa using h)
    simp only [List.flatten_cons]
    have e : (i + 1) * sz = u.length + i * sz := by rw [Nat.add_mul, Nat.one_mul, hu, Nat.add_comm]
    rw [e, ← List.drop_drop, List.drop_left]
    exact ih

theorem flat_len {α : Type} (sz : Nat) : ∀ (vss : List (List α)), (∀ v ∈ vss, v.length = sz) → vss.flatten.length = vss.length * sz
  | [], _ => by simp
  | u :: r, hl => by
    simp only [List.flatten_cons, List.length_append, List.length_cons]
    rw [flat_len sz r fun v hv => hl v (by simp [hv]), hl u (by simp), Nat.add_mul, Nat.one_mul, Nat.add_comm]

theorem flat_get {α : Type} {sz : Nat} {vss : List (List α)} (hl : ∀ v ∈ vss, v.length = sz) {k : Nat} {x : α} (h : vss.flatten[k]? = some x) : ∃ i j v, k = i * sz + j ∧ j < sz ∧ vss[i]? = some v ∧ v[j]? = some x := by
  have hk := (List.getElem?_eq_some_iff.1 h).1
  rw [flat_len sz vss hl] at hk
  have hsz : 0 < sz := by
    rcases Nat.eq_zero_or_pos sz with h0 | h0
    · subst h0; simp at hk
    · exact h0
  have hi : k / sz < vss.length := (Nat.div_lt_iff_lt_mul hsz).2 hk
  refine ⟨k / sz, k % sz, vss[k / sz], (Nat.div_add_mod' k sz).symm, Nat.mod_lt _ hsz, by simp [hi], ?_⟩
  have hc := flat_cut sz vss hl (k / sz) vss[k / sz] (by simp [hi])
  rw [← hc, List.getElem?_take, if_pos (Nat.mod_lt _ hsz), List.getElem?_drop, Nat.div_add_mod']
  exact h

theorem VRs.flatten {φ : Phi} : ∀ {a b : List (List Value)}, a.length = b.length → (∀ (i : Nat) x y, a[i]? = some x → b[i]? = some y → VRs φ x y) → VRs φ a.flatten b.flatten
  | [], [], _, _ => .nil
  | [], _ :: _, h, _ => by simp at h
  | _ :: _, [], h, _ => by simp at h
  | x :: a, y :: b, h, k => by
    simp only [List.flatten_cons]
    exact (k 0 x y rfl rfl).append (VRs.flatten (by simpa using h) fun i u v hu hv => k (i + 1) u v (by simpa using hu) (by simpa using hv))

theorem contig_flat : ∀ (fs : List Field) (off tot : Nat) (cs : List Value), contig P fs off tot = true → cs.length = tot → off ≤ tot ∧ (fs.map fun f => (cs.drop f.offset).take (P.cellsOf f.type)).flatten = cs.drop off ∧ ∀ f ∈ fs, off ≤ f.offset ∧ f.offset + P.cellsOf f.type ≤ tot
  | [], off, tot, cs, h, hl => by
    simp only [contig, beq_iff_eq] at h
    subst h
    exact ⟨Nat.le_refl _, by simp [hl], fun f hf => by simp at hf⟩
  | f :: fs, off, tot, cs, h, hl => by
    simp only [contig, Bool.and_eq_true, beq_iff_eq] at h
    obtain ⟨ho, h⟩ := h
    obtain ⟨h1, h2, h3⟩ := contig_flat fs _ tot cs h hl
    refine ⟨by omega, ?_, ?_⟩
    · simp only [List.map_cons, List.flatten_cons]
      rw [h2, ho, ← List.drop_drop, List.take_append_drop]
    · intro g hg
      rcases List.mem_cons.1 hg with rfl | hg
      · omega
      · have := h3 g hg; omega

theorem contig_cut : ∀ (fs : List Field) (off tot : Nat) (vss : List (List Value)), contig P fs off tot = true → vss.length = fs.length → (∀ (i : Nat) f v, fs[i]? = some f → vss[i]? = some v → v.length = P.cellsOf f.type) →
    vss.flatten.length = tot - off ∧ ∀ (i : Nat) f v, fs[i]? = some f → vss[i]? = some v → (vss.flatten.drop (f.offset - off)).take (P.cellsOf f.type) = v ∧ off ≤ f.offset
  | [], off, tot, vss, h, hl, _ => by
    simp only [contig, beq_iff_eq] at h
    have : vss = [] := List.eq_nil_of_length_eq_zero (by simpa using hl)
    subst this
    exact ⟨by simp [h], fun i f v hf => by simp at hf⟩
  | f :: fs, off, tot, [], h, hl, _ => by simp at hl
  | f :: fs, off, tot, u :: vss, h, hl, hz => by
    simp only [contig, Bool.and_eq_true, beq_iff_eq] at h
    obtain ⟨ho, h⟩ := h
    have hu := hz 0 f u rfl rfl
    obtain ⟨h1, h2⟩ := contig_cut fs _ tot vss h (by simpa using hl) fun i g v hg hv => hz (i + 1) g v (by simpa using hg) (by simpa using hv)
    have hle : off + P.cellsOf f.type ≤ tot := (contig_flat fs _ tot (List.replicate tot undef) h (by simp)).1
    refine ⟨by simp only [List.flatten_cons, List.length_append, h1, hu]; omega, fun i g v hg hv => ?_⟩
    cases i with
    | zero =>
      simp only [List.getElem?_cons_zero, Option.some.injEq] at hg hv
      subst hg; subst hv
      rw [ho, Nat.sub_self, List.drop_zero, List.flatten_cons, List.take_append_of_le_length (by omega), List.take_of_length_le (by omega)]
      exact ⟨rfl, Nat.le_refl _⟩
    | succ i =>
      obtain ⟨h3, h4⟩ := h2 i g v (by simpa using hg) (by simpa using hv)
      have e : g.offset - off = u.length + (g.offset - (off + P.cellsOf f.type)) := by omega
      rw [e, List.flatten_cons, ← List.drop_drop, List.drop_left]
      exact ⟨h3, by omega⟩

theorem cellsOk {w : World} {a : Addr} {n : Nat} {cs : List Value} (hn : 0 < n) (h : w.cells? base a n = some cs) : a.spot = none ∧ ∃ C el fr, w.heap[a.block]? = some (.cells C el fr) ∧ ∀ j, j < n → C[a.off + j]? = cs[j]? := by
  obtain ⟨_, hl, hc⟩ := World.cells?_some h
  have h0 := hc 0 hn
  have hcs : ∃ v, cs[0]? = some v := ⟨cs[0]'(by omega), by simp⟩
  obtain ⟨v0, hv0⟩ := hcs
  rw [hv0] at h0
  simp only [World.cell?, Addr.add, if_true] at h0
  split at h0
  · rename_i C el fr hb
    split at h0
    · cases h0
    · rename_i hsp
      refine ⟨by simpa using hsp, C, el, fr, hb, fun j hj => ?_⟩
      have := hc j hj
      rw [← this]
      simp only [World.cell?, Addr.add]
      by_cases hj0 : j = 0
      · subst hj0; simp [hb, hsp]
      · simp [hj0, hb]
  · cases h0

end
end Go.E
