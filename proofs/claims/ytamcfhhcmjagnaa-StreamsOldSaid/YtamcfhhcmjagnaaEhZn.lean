/-
  THE EVALUATOR, PART ZN: a call's arguments laid into the first heap, with their sizes: no string, no slice is longer than what a call may reach.
-/
import Derived.Test.YtamcfhhcmjagnaaEhZm
import Derived.Test.YtamcfhhcmjagnaaEhZl
import Derived.SizedLaws
set_option linter.unusedSimpArgs false
set_option linter.unusedVariables false
namespace Go.E
open Go Go.ChangeShapes Go.WideShapes Go.ChangeAt Go.RowKit
variable {P : Program}
theorem weightsAll_mem {X : Type} {e : TypeId} {k : Nat} : ∀ {l : List (DataW X)} {d : DataW X}, d ∈ l → k ∈ d.weights P e → k ∈ DataW.weightsAll P e l
  | [], _, h, _ => by cases h
  | c :: l, d, h, hk => by
    rw [DataW.weightsAll, List.mem_append]
    rcases List.mem_cons.1 h with rfl | h
    · exact .inl hk
    · exact .inr (weightsAll_mem h hk)
theorem weightsEach_app {X : Type} {k : Nat} {ts' : List TypeId} {gs : List (DataW X)} : ∀ {ts : List TypeId} {ds : List (DataW X)}, k ∈ DataW.weightsEach P ts ds → k ∈ DataW.weightsEach P (ts ++ ts') (ds ++ gs)
  | [], _, h => by simp [DataW.weightsEach] at h
  | _ :: _, [], h => by simp [DataW.weightsEach] at h
  | t :: ts, d :: ds, h => by
    simp only [List.cons_append, DataW.weightsEach, List.mem_append] at h ⊢
    rcases h with h | h
    · exact .inl h
    · exact .inr (weightsEach_app h)
def OkS (P : Program) (gs : List AObj) : Nat → TypeId → List Value → Prop
  | 0, _, _ => False
  | n + 1, t, vs => match P.underlying t with
    | some .bool => ∃ b, vs = [.bool b]
    | some (.int k) => ∃ i, vs = [.int k i] ∧ (Lit.int k i).wf = true
    | some .string => ∃ s : ByteArray, vs = [.string s] ∧ s.size ≤ reachBytes
    | some (.slice e) => vs = [.slice none 0 0] ∨ (∃ b c, vs = [.slice (some ⟨b, 0, none⟩) 0 0] ∧ gs[b]? = some c) ∨ ∃ b l c cells, vs = [.slice (some ⟨b, 0, none⟩) l c] ∧ l ≤ c ∧ (c ≤ maxLen ∧ c * P.bytesOf e ≤ reachBytes) ∧ gs[b]? = some (.cells cells 0 true) ∧ cells.length = l * P.cellsOf e ∧
        ∀ i, i < l → OkS P gs n e ((cells.drop (i * P.cellsOf e)).take (P.cellsOf e))
    | some (.struct fs) => vs.length = P.cellsOf t ∧ ∀ f ∈ fs.toList, OkS P gs n f.type ((vs.drop f.offset).take (P.cellsOf f.type))
    | some (.array m e) => vs.length = P.cellsOf t ∧ ∀ i, i < m → OkS P gs n e ((vs.drop (i * P.cellsOf e)).take (P.cellsOf e))
    | _ => False

theorem OkS.mono {gs gs' : List AObj} : ∀ (n : Nat) (t : TypeId) (vs : List Value), OkS P gs n t vs → OkS P (gs ++ gs') n t vs
  | 0, _, _, h => h
  | n + 1, t, vs, h => by
    unfold OkS at h ⊢
    split at h <;> try exact h
    · rcases h with h | ⟨b, c, h, k⟩ | ⟨b, l, c, cells, h1, h2, hm, h4, h5, h6⟩
      · exact .inl h
      · exact .inr (.inl ⟨b, c, h, get_prefix k⟩)
      · exact .inr (.inr ⟨b, l, c, cells, h1, h2, hm, get_prefix h4, h5, fun i hi => OkS.mono n _ _ (h6 i hi)⟩)
    · exact ⟨h.1, fun f hf => OkS.mono n _ _ (h.2 f hf)⟩
    · exact ⟨h.1, fun i hi => OkS.mono n _ _ (h.2 i hi)⟩

theorem OkS.okA {gs : List AObj} : ∀ (n : Nat) (t : TypeId) (vs : List Value), OkS P gs n t vs → OkA P gs n t vs
  | 0, _, _, h => h
  | n + 1, t, vs, h => by
    unfold OkS at h
    unfold OkA
    split at h
    · rename_i hu; rw [hu]; exact h
    · rename_i hu; rw [hu]; exact h
    · rename_i hu; rw [hu]
      obtain ⟨s, h1, h2⟩ := h
      exact ⟨s, h1, Nat.le_trans h2 (by decide)⟩
    · rename_i hu; rw [hu]
      rcases h with h | ⟨b, c, h, k⟩ | ⟨b, l, c, cells, h1, h2, hm, h4, h5, h6⟩
      · exact .inl h
      · exact .inr (.inl ⟨b, c, h, k⟩)
      · exact .inr (.inr ⟨b, l, c, cells, h1, h2, hm.1, h4, h5, fun i hi => OkS.okA n _ _ (h6 i hi)⟩)
    · rename_i hu; rw [hu]
      exact ⟨h.1, fun f hf => OkS.okA n _ _ (h.2 f hf)⟩
    · rename_i hu; rw [hu]
      exact ⟨h.1, fun i hi => OkS.okA n _ _ (h.2 i hi)⟩
    · exact h.elim
section
variable {X : Type} {enc : TypeId × Value → X} {w : World} {base : Nat} {sp : Nat → Bool} {held : Bool} {r : Reach} {b0 : Nat}
def LaidS (P : Program) (w : World) (n : Nat) (gs : List AObj) (ms : List Emb) (t : TypeId) (cs : List Value) : Prop :=
  ∃ gs' ms' vs, St w (gs ++ gs') (ms ++ ms') ∧ VRs (fun b => (ms ++ ms')[b]?) vs cs ∧ OkS P (gs ++ gs') n t vs ∧ ∀ v ∈ vs, v.oneCell' = true

theorem layS_parts {n : Nat} (ih : ∀ t cs gs ms, layT P n t = true → St w gs ms → (∃ fuel x, DataW.trod enc P w base sp held fuel t cs = some x ∧ ∀ k ∈ x.1.weights P t, k ≤ reachBytes) → LaidS P w n gs ms t cs) :
    ∀ (parts : List (TypeId × List Value)) (gs : List AObj) (ms : List Emb), St w gs ms → (∀ x ∈ parts, layT P n x.1 = true ∧ ∃ fuel d, DataW.trod enc P w base sp held fuel x.1 x.2 = some d ∧ ∀ k ∈ d.1.weights P x.1, k ≤ reachBytes) →
      ∃ (gs' : List AObj) (ms' : List Emb) (vss : List (List Value)), St w (gs ++ gs') (ms ++ ms') ∧ vss.length = parts.length ∧ ∀ (i : Nat) t cs, parts[i]? = some (t, cs) → ∃ vs, vss[i]? = some vs ∧ VRs (fun b => (ms ++ ms')[b]?) vs cs ∧ OkS P (gs ++ gs') n t vs ∧ ∀ v ∈ vs, v.oneCell' = true
  | [], gs, ms, hs, _ => ⟨[], [], [], by simpa using hs, rfl, fun i t cs h => by simp at h⟩
  | (t, cs) :: r, gs, ms, hs, hp => by
    obtain ⟨h1, h2⟩ := hp (t, cs) (by simp)
    obtain ⟨g1, m1, vs, hs1, hv1, ho1, hn1⟩ := ih t cs gs ms h1 hs h2
    obtain ⟨g2, m2, vss, hs2, hl2, hv2⟩ := layS_parts ih r _ _ hs1 (fun x hx => hp x (by simp [hx]))
    refine ⟨g1 ++ g2, m1 ++ m2, vs :: vss, by rw [← List.append_assoc, ← List.append_assoc]; exact hs2, by simp [hl2], fun i t' cs' hi => ?_⟩
    cases i with
    | zero =>
      simp only [List.getElem?_cons_zero, Option.some.injEq, Prod.mk.injEq] at hi
      obtain ⟨rfl, rfl⟩ := hi
      refine ⟨vs, rfl, ?_, ?_, hn1⟩
      · rw [← List.append_assoc]; exact hv1.mono (phi_le _ _)
      · rw [← List.append_assoc]; exact OkS.mono _ _ _ ho1
    | succ i =>
      obtain ⟨vs', h3, h4, h5, h6⟩ := hv2 i t' cs' (by simpa using hi)
      refine ⟨vs', by simpa using h3, ?_, ?_, h6⟩
      · rw [← List.append_assoc]; exact h4
      · rw [← List.append_assoc]; exact h5

theorem partsS_all {n : Nat} {φ : Phi} {gs : List AObj} {parts : List (TypeId × List Value)} {vss : List (List Value)} (hl : vss.length = parts.length)
    (h : ∀ (i : Nat) t cs, parts[i]? = some (t, cs) → ∃ vs, vss[i]? = some vs ∧ VRs φ vs cs ∧ OkS P gs n t vs ∧ ∀ v ∈ vs, v.oneCell' = true) {i : Nat} {vs : List Value} (hi : vss[i]? = some vs) :
    ∃ t cs, parts[i]? = some (t, cs) ∧ VRs φ vs cs ∧ OkS P gs n t vs ∧ ∀ v ∈ vs, v.oneCell' = true := by
  have h1 := (List.getElem?_eq_some_iff.1 hi).1
  obtain ⟨⟨t, cs⟩, hp⟩ : ∃ x, parts[i]? = some x := ⟨parts[i]'(by omega), by simp⟩
  obtain ⟨vs', h2, h3⟩ := h i t cs hp
  rw [hi] at h2
  cases h2
  exact ⟨t, cs, hp, h3⟩

theorem layS (hsp : ∀ b, sp b = true) : ∀ (n : Nat) (t : TypeId) (cs : List Value) (gs : List AObj) (ms : List Emb), layT P n t = true → St w gs ms → (∃ fuel x, DataW.trod enc P w base sp held fuel t cs = some x ∧ ∀ k ∈ x.1.weights P t, k ≤ reachBytes) → LaidS P w n gs ms t cs
  | 0, _, _, _, _, h, _, _ => by simp [layT] at h
  | n + 1, t, cs, gs, ms, hT, hs, ⟨fuel, x, hx, hwx⟩ => by
    have ih := layS hsp n
    unfold layT at hT
    split at hT
    · rename_i hu
      obtain ⟨b, rfl, _⟩ := DataW.trod_bool hu hx
      exact ⟨[], [], [.bool b], by simpa using hs, .cons (.bool b) .nil, by unfold OkS; rw [hu]; exact ⟨b, rfl⟩, by simp [Value.oneCell']⟩
    · rename_i k hu
      obtain ⟨i, rfl, _, hw⟩ := DataW.trod_int hu hx
      exact ⟨[], [], [.int k i], by simpa using hs, .cons (.int k i) .nil, by unfold OkS; rw [hu]; exact ⟨i, rfl, hw⟩, by simp [Value.oneCell']⟩
    · rename_i hu
      obtain ⟨s, rfl, rfl, _⟩ := DataW.trod_string hu hx
      have hw : s.size ≤ reachBytes := by
        have h1 : s.data.toList.length ≤ reachBytes := hwx _ (by
          show _ ∈ DataW.weights P t (.lit (.string s.data.toList))
          unfold DataW.weights
          exact List.mem_singleton.2 rfl)
        rw [Array.length_toList] at h1
        exact h1
      exact ⟨[], [], [.string s], by simpa using hs, .cons (.str s) .nil, by unfold OkS; rw [hu]; exact ⟨s, rfl, hw⟩, by simp [Value.oneCell']⟩
    · rename_i e hu
      simp only [Bool.and_eq_true, decide_eq_true_eq] at hT
      obtain ⟨hsz, hT⟩ := hT
      rcases DataW.trod_slice hu hx with ⟨rfl, _⟩ | ⟨a, len, cap, elems, rest, m, rfl, rfl, hxe, hb, hlc, hcm, hel, hE, hR, _⟩
      · exact ⟨[], [], [.slice none 0 0], by simpa using hs, .cons .slNil .nil, by unfold OkS; rw [hu]; exact .inl rfl, by simp [Value.oneCell']⟩
      · by_cases hcap : cap = 0
        · subst hcap
          obtain rfl : len = 0 := by omega
          refine ⟨[.dead], [⟨a.block, 0, 0, 0, 0⟩], [.slice (some ⟨gs.length, 0, none⟩) 0 0], hs.push rfl trivial, .cons (.slEmpty 0 a (m := ⟨a.block, 0, 0, 0, 0⟩) (by rw [← hs.len]; simp)) .nil, ?_, by simp [Value.oneCell']⟩
          unfold OkS; rw [hu]
          exact .inr (.inl ⟨gs.length, .dead, rfl, by simp⟩)
        · -- the block that it lies in
          subst hxe
          have hcap2 : elems.length + rest.length = cap := by rw [hel, (hR (hsp _)).1]; omega
          have hsize2 : cap * P.bytesOf e ≤ reachBytes := by
            have h1 := hwx ((elems.length + rest.length) * P.bytesOf e) (by simp [DataW.weights, hu])
            rwa [hcap2] at h1
          have hwe : ∀ y, y ∈ elems ++ rest → ∀ k ∈ y.1.weights P e, k ≤ reachBytes := by
            intro y hy k hk
            refine hwx k ?_
            simp only [DataW.weights, hu, List.mem_cons, List.mem_append]
            rcases List.mem_append.1 hy with hy | hy
            · exact .inr (.inl (weightsAll_mem (List.mem_map_of_mem hy) hk))
            · exact .inr (.inr (weightsAll_mem (List.mem_map_of_mem hy) hk))
          have hrow : ∀ i, i < cap → ∃ row y, w.cells? base (a.add (i * P.cellsOf e)) (P.cellsOf e) = some row ∧ DataW.trod enc P w base sp held m e row = some y ∧ ∀ k ∈ y.1.weights P e, k ≤ reachBytes := by
            intro i hi
            by_cases hil : i < len
            · have h1 := hE i hil
              obtain ⟨y, hy⟩ : ∃ y, elems[i]? = some y := ⟨elems[i]'(by omega), by simp⟩
              rw [hy, Option.bind_eq_some_iff] at h1
              obtain ⟨row, h2, h3⟩ := h1
              exact ⟨row, y, h2, h3, hwe y (List.mem_append.2 (.inl (List.mem_of_getElem? hy)))⟩
            · obtain ⟨hrl, h1⟩ := hR (hsp _)
              have h1 := h1 (i - len) (by omega)
              obtain ⟨y, hy⟩ : ∃ y, rest[i - len]? = some y := ⟨rest[i - len]'(by omega), by simp⟩
              rw [hy, Option.bind_eq_some_iff, show len + (i - len) = i by omega] at h1
              obtain ⟨row, h2, h3⟩ := h1
              exact ⟨row, y, h2, h3, hwe y (List.mem_append.2 (.inr (List.mem_of_getElem? hy)))⟩
          obtain ⟨row0, _, h00, _⟩ := hrow 0 (by omega)
          rw [Nat.zero_mul] at h00
          obtain ⟨hspot, C, el, fr, hheap, _⟩ := cellsOk (a := a.add 0) hsz h00
          have ha0 : a.add 0 = a := rfl
          rw [ha0] at hspot hheap
          obtain ⟨blk, off, spot⟩ := a
          simp only at hspot hheap
          subst hspot
          let row (i : Nat) : List Value := (w.cells? base (Addr.add ⟨blk, off, none⟩ (i * P.cellsOf e)) (P.cellsOf e)).getD []
          have hrow2 : ∀ i, i < len → (row i).length = P.cellsOf e ∧ (∃ y, DataW.trod enc P w base sp held m e (row i) = some y ∧ ∀ k ∈ y.1.weights P e, k ≤ reachBytes) ∧ ∀ j, j < P.cellsOf e → C[off + (i * P.cellsOf e + j)]? = (row i)[j]? := by
            intro i hi
            obtain ⟨r, y, h1, h2⟩ := hrow i (by omega)
            have e1 : row i = r := by simp only [row, h1, Option.getD_some]
            obtain ⟨_, C', el', fr', h3, h4⟩ := cellsOk hsz h1
            have hbk : (Addr.add ⟨blk, off, none⟩ (i * P.cellsOf e)).block = blk ∧ (Addr.add ⟨blk, off, none⟩ (i * P.cellsOf e)).off = off + i * P.cellsOf e := by
              unfold Addr.add
              split
              · rename_i h0; rw [h0]; exact ⟨rfl, rfl⟩
              · exact ⟨rfl, rfl⟩
            rw [hbk.1, hheap] at h3
            cases h3
            rw [hbk.2] at h4
            rw [e1]
            exact ⟨(World.cells?_some h1).2.1, ⟨y, h2⟩, fun j hj => by rw [← Nat.add_assoc]; exact h4 j hj⟩
          obtain ⟨g1, m1, vss, hs1, hl1, hv1⟩ := layS_parts (enc := enc) (sp := sp) (held := held) (base := base) ih ((List.range len).map fun i => (e, row i)) gs ms hs (fun x hx => by
            simp only [List.mem_map, List.mem_range] at hx
            obtain ⟨i, hi, rfl⟩ := hx
            obtain ⟨y, hy⟩ := (hrow2 i hi).2.1
            exact ⟨hT, m, y, hy⟩)
          have hlv : vss.length = len := by simpa using hl1
          have hvi : ∀ i v, vss[i]? = some v → i < len ∧ VRs (fun b => (ms ++ m1)[b]?) v (row i) ∧ OkS P (gs ++ g1) n e v ∧ ∀ u ∈ v, u.oneCell' = true := by
            intro i v hi
            obtain ⟨t', cs', h1, h2⟩ := partsS_all hl1 hv1 hi
            have hil : i < len := by have := (List.getElem?_eq_some_iff.1 hi).1; omega
            simp [hil] at h1
            obtain ⟨rfl, rfl⟩ := h1
            exact ⟨hil, h2⟩
          have hvl : ∀ v ∈ vss, v.length = P.cellsOf e := by
            intro v hv
            obtain ⟨i, hi⟩ := List.mem_iff_getElem?.1 hv
            obtain ⟨h1, h2, _⟩ := hvi i v hi
            rw [h2.length, (hrow2 i h1).1]
          have hfl := flat_len (P.cellsOf e) vss hvl
          rw [hlv] at hfl
          have hone : ∀ v ∈ vss.flatten, v.oneCell' = true := by
            intro v hv
            obtain ⟨u, hu', hv'⟩ := List.mem_flatten.1 hv
            obtain ⟨i, hi⟩ := List.mem_iff_getElem?.1 hu'
            exact (hvi i u hi).2.2.2 v hv'
          have hsize : off + len * P.cellsOf e ≤ C.size := by
            rcases Nat.eq_zero_or_pos len with h0 | h0
            · subst h0
              obtain ⟨_, _, h4, _⟩ := hrow 0 (by omega)
              rw [Nat.zero_mul] at h4
              obtain ⟨_, C', el', fr', h5, h6⟩ := cellsOk (a := Addr.add ⟨blk, off, none⟩ 0) hsz h4
              have hbk : (Addr.add ⟨blk, off, none⟩ 0).block = blk := rfl
              rw [hbk, hheap] at h5
              cases h5
              have h7 := h6 0 hsz
              obtain ⟨_, hrl, _⟩ := World.cells?_some h4
              rw [List.getElem?_eq_getElem (by omega)] at h7
              have := (Array.getElem?_eq_some_iff.1 h7).1
              simp only [Addr.add, if_true] at this
              omega
            · obtain ⟨h1, _, h3⟩ := hrow2 (len - 1) (by omega)
              have h7 := h3 (P.cellsOf e - 1) (by omega)
              rw [List.getElem?_eq_getElem (by omega)] at h7
              have h8 := (Array.getElem?_eq_some_iff.1 h7).1
              have h9 : len * P.cellsOf e = (len - 1) * P.cellsOf e + P.cellsOf e := by
                have : len = (len - 1) + 1 := by omega
                conv => lhs; rw [this, Nat.add_mul, Nat.one_mul]
              omega
          have hL1 := hs1.len
          refine ⟨g1 ++ [.cells vss.flatten 0 true], m1 ++ [⟨blk, off, len * P.cellsOf e, len * P.cellsOf e, 0⟩], [.slice (some ⟨(gs ++ g1).length, 0, none⟩) len cap], ?_, ?_, ?_, by simp [Value.oneCell']⟩
          · rw [← List.append_assoc, ← List.append_assoc]
            refine hs1.push rfl ⟨hfl, Nat.le_refl _, rfl, hone, C, el, fr, hheap, hsize, fun k v hk => ?_, fun h => by cases h⟩
            obtain ⟨i, j, u, rfl, hj, hi, hju⟩ := flat_get hvl hk
            obtain ⟨h1, h2, _⟩ := hvi i u hi
            obtain ⟨v', h3, h4⟩ := h2.get j v hju
            refine ⟨v', ?_, h4.mono (phi_le _ _)⟩
            rw [(hrow2 i h1).2.2 j hj]
            exact h3
          · refine .cons ?_ .nil
            have := VR.sl (φ := fun b => (ms ++ (m1 ++ [⟨blk, off, len * P.cellsOf e, len * P.cellsOf e, 0⟩]))[b]?) (b := (gs ++ g1).length) (m := ⟨blk, off, len * P.cellsOf e, len * P.cellsOf e, 0⟩) (o := 0) (l := len) (c := cap) (c' := cap) (by
              rw [← List.append_assoc, ← hL1]; simp) hlc (.inl rfl)
            exact this
          · unfold OkS; rw [hu]
            refine .inr (.inr ⟨(gs ++ g1).length, len, cap, vss.flatten, rfl, hlc, ⟨hcm, hsize2⟩, by rw [← List.append_assoc]; simp, hfl, fun i hi => ?_⟩)
            obtain ⟨v, hv⟩ : ∃ v, vss[i]? = some v := ⟨vss[i]'(by omega), by simp⟩
            rw [flat_cut _ vss hvl i v hv, ← List.append_assoc]
            exact OkS.mono _ _ _ (hvi i v hv).2.2.1
    · rename_i fs hu
      simp only [Bool.and_eq_true, List.all_eq_true] at hT
      obtain ⟨hcon, hT⟩ := hT
      obtain ⟨xs, m, _, rfl, hcl, hxl, hxs⟩ := DataW.trod_struct hu hx
      obtain ⟨_, hflat, hin⟩ := contig_flat fs.toList 0 _ cs hcon hcl
      rw [List.drop_zero] at hflat
      obtain ⟨g1, m1, vss, hs1, hl1, hv1⟩ := layS_parts (enc := enc) (sp := sp) (held := held) (base := base) ih (fs.toList.map fun f => (f.type, (cs.drop f.offset).take (P.cellsOf f.type))) gs ms hs (fun x hx => by
        simp only [List.mem_map] at hx
        obtain ⟨f, hf, rfl⟩ := hx
        obtain ⟨i, hi⟩ := List.mem_iff_getElem?.1 hf
        have h1 := hxs i f (by simpa using hi)
        have h2 := (List.getElem?_eq_some_iff.1 hi).1
        rw [List.getElem?_eq_getElem (by simp at h2; omega)] at h1
        refine ⟨hT f hf, m, _, h1, fun k hk => hwx k ?_⟩
        simp only [DataW.weights, hu]
        exact DataW.weights_mem_each (j := i) (t := f.type) (d := (xs[i]'(by simp at h2; omega)).1) (by rw [List.getElem?_map, hi]; rfl) (by rw [List.getElem?_map, List.getElem?_eq_getElem (by simp at h2; omega)]; rfl) k hk)
      have hl1' : vss.length = fs.toList.length := by simpa using hl1
      have hvi : ∀ (i : Nat) f v, fs.toList[i]? = some f → vss[i]? = some v → VRs (fun b => (ms ++ m1)[b]?) v ((cs.drop f.offset).take (P.cellsOf f.type)) ∧ OkS P (gs ++ g1) n f.type v ∧ ∀ u ∈ v, u.oneCell' = true := by
        intro i f v hf hv
        obtain ⟨v', h1, h2⟩ := hv1 i f.type _ (by rw [List.getElem?_map, hf]; rfl)
        rw [hv] at h1
        cases h1
        exact h2
      have hlen : ∀ (i : Nat) f v, fs.toList[i]? = some f → vss[i]? = some v → v.length = P.cellsOf f.type := by
        intro i f v hf hv
        rw [(hvi i f v hf hv).1.length]
        have := hin f (List.mem_of_getElem? hf)
        simp only [List.length_take, List.length_drop]; omega
      obtain ⟨hfl, hcut⟩ := contig_cut fs.toList 0 _ vss hcon hl1' hlen
      refine ⟨g1, m1, vss.flatten, hs1, ?_, ?_, ?_⟩
      · rw [← hflat]
        refine VRs.flatten (by simpa using hl1') fun i x y hx hy => ?_
        rw [List.getElem?_map] at hy
        cases hf : fs.toList[i]? with
        | none => rw [hf] at hy; cases hy
        | some f => rw [hf] at hy; cases hy; exact (hvi i f x hf hx).1
      · unfold OkS; rw [hu]
        refine ⟨by rw [hfl, Nat.sub_zero], fun f hf => ?_⟩
        obtain ⟨i, hi⟩ := List.mem_iff_getElem?.1 hf
        have h2 := (List.getElem?_eq_some_iff.1 hi).1
        obtain ⟨v, hv⟩ : ∃ v, vss[i]? = some v := ⟨vss[i]'(by omega), by simp⟩
        obtain ⟨h3, _⟩ := hcut i f v hi hv
        rw [Nat.sub_zero] at h3
        rw [h3]
        exact (hvi i f v hi hv).2.1
      · intro v hv
        obtain ⟨u, hu', hv'⟩ := List.mem_flatten.1 hv
        obtain ⟨i, hi⟩ := List.mem_iff_getElem?.1 hu'
        have h2 := (List.getElem?_eq_some_iff.1 hi).1
        exact (hvi i (fs.toList[i]'(by omega)) u (by simp) hi).2.2 v hv'
    · rename_i k e hu
      simp only [Bool.and_eq_true, beq_iff_eq] at hT
      obtain ⟨hsz, hT⟩ := hT
      obtain ⟨xs, m, _, rfl, hcl, hxl, hxs⟩ := DataW.trod_array hu hx
      obtain ⟨g1, m1, vss, hs1, hl1, hv1⟩ := layS_parts (enc := enc) (sp := sp) (held := held) (base := base) ih ((List.range k).map fun i => (e, (cs.drop (i * P.cellsOf e)).take (P.cellsOf e))) gs ms hs (fun x hx => by
        simp only [List.mem_map, List.mem_range] at hx
        obtain ⟨i, hi, rfl⟩ := hx
        have h1 := hxs i hi
        rw [List.getElem?_eq_getElem (by omega)] at h1
        refine ⟨hT, m, _, h1, fun k hk => hwx k ?_⟩
        simp only [DataW.weights, hu]
        exact weightsAll_mem (List.mem_map_of_mem (List.getElem_mem _)) hk)
      have hlv : vss.length = k := by simpa using hl1
      have hvi : ∀ i v, vss[i]? = some v → i < k ∧ VRs (fun b => (ms ++ m1)[b]?) v ((cs.drop (i * P.cellsOf e)).take (P.cellsOf e)) ∧ OkS P (gs ++ g1) n e v ∧ ∀ u ∈ v, u.oneCell' = true := by
        intro i v hi
        obtain ⟨t', cs', h1, h2⟩ := partsS_all hl1 hv1 hi
        have hil : i < k := by have := (List.getElem?_eq_some_iff.1 hi).1; omega
        simp [hil] at h1
        obtain ⟨rfl, rfl⟩ := h1
        exact ⟨hil, h2⟩
      have hvl : ∀ v ∈ vss, v.length = P.cellsOf e := by
        intro v hv
        obtain ⟨i, hi⟩ := List.mem_iff_getElem?.1 hv
        obtain ⟨h1, h2, _⟩ := hvi i v hi
        rw [h2.length]
        have h3 : (i + 1) * P.cellsOf e ≤ k * P.cellsOf e := Nat.mul_le_mul_right _ h1
        rw [Nat.add_mul, Nat.one_mul] at h3
        simp only [List.length_take, List.length_drop]; omega
      have hfl := flat_len (P.cellsOf e) vss hvl
      rw [hlv] at hfl
      refine ⟨g1, m1, vss.flatten, hs1, ?_, ?_, ?_⟩
      · refine VRs.of (by rw [hfl, hcl, hsz]) fun q v hq => ?_
        obtain ⟨i, j, u, rfl, hj, hi, hju⟩ := flat_get hvl hq
        obtain ⟨h1, h2, _⟩ := hvi i u hi
        obtain ⟨v', h3, h4⟩ := h2.get j v hju
        refine ⟨v', ?_, h4⟩
        rw [List.getElem?_take, if_pos hj, List.getElem?_drop] at h3
        exact h3
      · unfold OkS; rw [hu]
        refine ⟨by rw [hfl, hsz], fun i hi => ?_⟩
        obtain ⟨v, hv⟩ : ∃ v, vss[i]? = some v := ⟨vss[i]'(by omega), by simp⟩
        rw [flat_cut _ vss hvl i v hv]
        exact (hvi i v hv).2.2.1
      · intro v hv
        obtain ⟨u, hu', hv'⟩ := List.mem_flatten.1 hv
        obtain ⟨i, hi⟩ := List.mem_iff_getElem?.1 hu'
        exact (hvi i u hi).2.2.2 v hv'
    · cases hT
def ArgsOkS (P : Program) (gs : List AObj) (n : Nat) : List TypeId → List Value → Prop
  | [], [] => True
  | t :: ts, a :: as => (∃ cells, a = argV P t cells ∧ OkS P gs n t cells) ∧ ArgsOkS P gs n ts as
  | _, _ => False

theorem ArgsOkS.mono {gs gs' : List AObj} {n : Nat} : ∀ (ts : List TypeId) (as : List Value), ArgsOkS P gs n ts as → ArgsOkS P (gs ++ gs') n ts as
  | [], [], _ => trivial
  | [], _ :: _, h => h
  | _ :: _, [], h => h
  | t :: ts, a :: as, ⟨⟨cells, h1, h2⟩, h3⟩ => ⟨⟨cells, h1, OkS.mono _ _ _ h2⟩, ArgsOkS.mono ts as h3⟩

theorem argsS_lay (hsp : ∀ b, sp b = true) {n : Nat} : ∀ (ts : List TypeId) (vs : List Value) (ds : List (DataW X)) (ps : List MemPlace) (gs : List AObj) (ms : List Emb), St w gs ms → (∀ t ∈ ts, layT P n t = true) →
    (∀ (j : Nat) t v, ts[j]? = some t → vs[j]? = some v → Value.okWide P w r b0 t v) → DataW.TrodAll enc P w base sp held ts vs ds ps → (∀ k ∈ DataW.weightsEach P ts ds, k ≤ reachBytes) →
    ∃ gs' ms' as, St w (gs ++ gs') (ms ++ ms') ∧ VRs (fun b => (ms ++ ms')[b]?) as vs ∧ ArgsOkS P (gs ++ gs') n ts as
  | [], [], [], ps, gs, ms, hs, _, _, _, _ => ⟨[], [], [], by simpa using hs, .nil, trivial⟩
  | [], [], _ :: _, ps, gs, ms, hs, _, _, h, _ => h.elim
  | [], _ :: _, _, ps, gs, ms, hs, _, _, h, _ => by cases h
  | _ :: _, [], _, ps, gs, ms, hs, _, _, h, _ => by cases h
  | _ :: _, _ :: _, [], ps, gs, ms, hs, _, _, h, _ => by cases h
  | t :: ts, v :: vs, d :: ds, ps, gs, ms, hs, hT, hv, h, hwx => by
    obtain ⟨p, q, ⟨fuel, hf⟩, hA, _⟩ := h
    obtain ⟨g1, m1, cells, hs1, hr1, ho1, _⟩ := layS (enc := enc) (sp := sp) (held := held) (base := base) hsp n t v.cells.toList gs ms (hT t (by simp)) hs ⟨fuel, _, hf, fun k hk => hwx k (by simp [DataW.weightsEach, hk])⟩
    obtain ⟨g2, m2, as, hs2, hr2, ho2⟩ := argsS_lay hsp ts vs ds q _ _ hs1 (fun t ht => hT t (by simp [ht])) (fun j t v h1 h2 => hv (j + 1) t v (by simpa using h1) (by simpa using h2)) hA (fun k hk => hwx k (by simp [DataW.weightsEach, hk]))
    refine ⟨g1 ++ g2, m1 ++ m2, argV P t cells :: as, by rw [← List.append_assoc, ← List.append_assoc]; exact hs2, ?_, ?_⟩
    · rw [← List.append_assoc]
      refine .cons (VR.mono (phi_le _ _) ?_) hr2
      have hw := hv 0 t v rfl rfl
      unfold argV
      cases ha : aggT P t with
      | true =>
        rw [if_pos rfl]
        unfold Value.okWide at hw
        unfold aggT at ha
        split at ha
        · rename_i hu
          rw [hu] at hw
          obtain ⟨cs, rfl, _⟩ := hw
          exact .agg hr1
        · rename_i hu
          rw [hu] at hw
          obtain ⟨cs, rfl, _⟩ := hw
          exact .agg hr1
        · cases ha
      | false =>
        rw [if_neg (by simp)]
        have hc : Cell.okWide P w r b0 t v := by
          unfold Value.okWide at hw
          unfold aggT at ha
          split at hw
          · rename_i hu; rw [hu] at ha; cases ha
          · rename_i hu; rw [hu] at ha; cases ha
          · exact hw
        have h1 : v.oneCell' = true := by
          have := cell_shape hc
          split at this
          · obtain ⟨b, rfl⟩ := this; rfl
          · exact this.1
        rw [cells_one h1] at hr1
        cases hr1 with
        | cons h2 h3 => cases h3; exact h2
    · rw [← List.append_assoc]
      exact ⟨⟨cells, rfl, OkS.mono _ _ _ ho1⟩, ho2⟩

theorem callsS_lay {C : Nat → Callee} {G : Nat} (hC : ∀ n, CalleeOk P G (C n)) (hsp : ∀ b, sp b = true) {n f : Nat} {gs : List AObj} {ms : List Emb} (hs : St w gs ms) (hG : GOk G fun b => ms[b]?) {ts : List TypeId} {vs : List Value} {ds : List (DataW X)} {ps : List MemPlace}
    (hT : (ts.all fun t => layT P n t) = true) (hv : ∀ (j : Nat) t v, ts[j]? = some t → vs[j]? = some v → Value.okWide P w r b0 t v) (hA : DataW.TrodAll enc P w base sp held ts vs ds ps) (hwx : ∀ k ∈ DataW.weightsEach P ts ds, k ≤ reachBytes)
    (law : ∀ gs' as, ArgsOkS P (gs ++ gs') n ts as → wpF C f as (startH (gs ++ gs')) fun v _ => v = .bool true) :
    Calls P f vs.toArray w fun e w' => e = .returned (.bool true) ∧ Below w.heap.size w w' := by
  rw [List.all_eq_true] at hT
  obtain ⟨gs', ms', as, hs', hr, ho⟩ := argsS_lay hsp ts vs ds ps gs ms hs hT hv hA hwx
  obtain ⟨v, H', rfl, k, hk⟩ := law gs' as ho
  obtain ⟨hsim, hw⟩ := hs'.sim
  refine ((hC k (.fn f) as _ _ H' (hk k (Nat.le_refl _)) (fun b => (ms ++ ms')[b]?) vs w (hG.mono (phi_le _ _)) hr hsim).2).mono fun e w' ⟨φ', v', he, hvr, hst⟩ => ?_
  cases hvr
  exact ⟨he, hst.below hw⟩

theorem ArgsOkS.cons {gs : List AObj} {n : Nat} {t : TypeId} {ts : List TypeId} {xs : List Value} (h : ArgsOkS P gs n (t :: ts) xs) : ∃ a as, xs = a :: as ∧ (∃ cells, a = argV P t cells ∧ OkS P gs n t cells) ∧ ArgsOkS P gs n ts as := by
  cases xs with
  | nil => exact h.elim
  | cons a as => exact ⟨a, as, rfl, h.1, h.2⟩
theorem ArgsOkS.nil {gs : List AObj} {n : Nat} {xs : List Value} (h : ArgsOkS P gs n [] xs) : xs = [] := by
  cases xs with
  | nil => rfl
  | cons a as => exact h.elim
end
section
variable {gs : List AObj} {n : Nat} {t : TypeId} {vs : List Value}
theorem OkS.struct {l : List (TypeId × Nat)} {m : Nat} (hu : fieldsOf P t = some l) (hm : P.cellsOf t = m) (h : OkS P gs (n + 1) t vs) : vs.length = m ∧ ∀ p ∈ l, OkS P gs n p.1 ((vs.drop p.2).take (P.cellsOf p.1)) := by
  unfold fieldsOf at hu
  unfold OkS at h
  split at hu
  · rename_i fs hfs
    rw [hfs] at h
    cases hu
    refine ⟨hm ▸ h.1, fun p hp => ?_⟩
    obtain ⟨f, hf, rfl⟩ := List.mem_map.1 hp
    exact h.2 f hf
  · cases hu
theorem OkS.slice {X : Type} {f : X → List Value} {Q : X → Prop} {e es : Nat} (hu : P.underlying t = some (.slice e)) (he : P.cellsOf e = es) (hf : ∀ x, (f x).length = es)
    (hel : ∀ us, OkS P gs n e us → ∃ x, us = f x ∧ Q x) (h : OkS P gs (n + 1) t vs) :
    ∃ (a : Option Addr) (xs : List X) (c : Nat) (r : List Nat), vs = [.slice a xs.length c] ∧ (xs.length ≤ 9223372036854775807 ∧ xs.length * P.bytesOf e ≤ reachBytes) ∧ RdS (startH gs) es (.slice a xs.length c) (xs.flatMap f) r ∧ (∀ b ∈ r, b < (startH gs).next) ∧ ∀ x ∈ xs, Q x := by
  unfold OkS at h
  rw [hu] at h
  rcases h with rfl | ⟨b, c, rfl, _⟩ | ⟨b, l, c, cells, rfl, hlc, hcm, hg, hl, hc⟩
  · exact ⟨none, [], 0, [], rfl, ⟨by simp, by simp⟩, .nil, by simp, by simp⟩
  · exact ⟨some ⟨b, 0, none⟩, [], 0, [], rfl, ⟨by simp, by simp⟩, .empty _, by simp, by simp⟩
  · rw [he] at hl hc
    obtain ⟨xs, h1, h2⟩ := list_of (Q := fun i (x : X) => (cells.drop (i * es)).take es = f x ∧ Q x) l fun i hi => hel _ (hc i hi)
    have hb := (List.getElem?_eq_some_iff.1 hg).1
    have hm : maxLen = 9223372036854775807 := rfl
    have hq : ∀ x ∈ xs, Q x := fun x hx => by
      obtain ⟨i, hi⟩ := List.getElem?_of_mem hx
      exact (h2 i x hi).2
    have hcl : cells.length = xs.length * es := by rw [h1]; exact hl
    have e1 : cells = xs.flatMap f := flat_of (f := f) xs _ hcl (fun x _ => hf x) fun i x hx => (h2 i x hx).1
    refine ⟨some ⟨b, 0, none⟩, xs, c, [b], by rw [h1], ⟨by have := hcm.1; omega, Nat.le_trans (Nat.mul_le_mul_right _ (show xs.length ≤ c by omega)) hcm.2⟩, ?_, by simp; rw [next_startH]; exact hb, hq⟩
    rw [← e1]
    have := RdS.blk (H := startH gs) (b := b) (es := es) (off := 0) (l := xs.length) (c := c) (cs := cells) (e := 0) (ro := true) (by rw [get_startH, List.getD_eq_getElem?_getD, hg]; rfl) (by omega) (.inl rfl) (by omega)
    rw [List.drop_zero, List.take_of_length_le (by omega)] at this
    exact this
theorem OkS.byteS {e : Nat} (hu : P.underlying t = some (.slice e)) (he : P.cellsOf e = 1) (h8 : P.underlying e = some (.int .u8)) (h : OkS P gs (n + 2) t vs) :
    ∃ (a : Option Addr) (xs : List Int) (c : Nat) (r : List Nat), vs = [.slice a xs.length c] ∧ (xs.length ≤ 9223372036854775807 ∧ xs.length * P.bytesOf e ≤ reachBytes) ∧ RdS (startH gs) 1 (.slice a xs.length c) (u8s xs) r ∧ (∀ b ∈ r, b < (startH gs).next) ∧ ∀ x ∈ xs, 0 ≤ x ∧ x ≤ 255 := by
  obtain ⟨a, xs, c, r, h1, h2, h3, h4, h5⟩ := h.slice (f := fun x : Int => [Value.int .u8 x]) (Q := fun x => 0 ≤ x ∧ x ≤ 255) hu he (fun _ => rfl) fun us h => (OkS.okA _ _ _ h).u8 h8
  exact ⟨a, xs, c, r, h1, h2, by rw [← u8s_flat]; exact h3, h4, h5⟩
end
end Go.E
