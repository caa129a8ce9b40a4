/-
  THE EVALUATOR, PART I: each of the machine's operations is what the evaluator's does.
-/
import Derived.Test.YtlkgacbholklkaaEwH
import Derived.Laws.BytesArg
import Derived.Lib.ConvBytes
set_option linter.unusedSimpArgs false
set_option linter.unusedVariables false
namespace Go.E
open Go Go.MapKept
variable {P : Program}
theorem toBytes_spec : ∀ {cs : List Value} {bs : List UInt8}, toBytes cs = some bs → ∃ ns : List Int, cs = ns.map (Value.int .u8) ∧ bs = ns.map (fun n => UInt8.ofNat n.toNat)
  | [], _, h => by simp [toBytes] at h; subst h; exact ⟨[], rfl, rfl⟩
  | v :: r, bs, h => by
    unfold toBytes at h
    split at h
    · rename_i hv; cases hv
    · rename_i n r' hv
      cases hv
      simp only [Option.map_eq_some_iff] at h
      obtain ⟨b, h1, rfl⟩ := h
      obtain ⟨ns, rfl, rfl⟩ := toBytes_spec h1
      exact ⟨n :: ns, rfl, rfl⟩
    · cases h

theorem plains_eq {φ : Phi} : ∀ {xs ys : List Value}, VRs φ xs ys → (∀ v ∈ xs, plainV v = true) → ys = xs
  | _, _, .nil, _ => rfl
  | _, _, .cons a b, h => by rw [plain_eq a (h _ (by simp)), plains_eq b (fun v hv => h v (by simp [hv]))]

theorem b2s_rel {φ : Phi} {H : AHeap} {w : World} (hs : Sim φ H w) {x x' v : Value} (hx : VR φ x x')
    (h : b2sN H x = some v) : ∃ s, v = .string s ∧ (Conv.bytesToString x').run P w = .ok (.string s) w := by
  cases hx <;> simp only [b2sN] at h <;> first | cases h | skip
  case slNil => exact ⟨_, rfl, rfl⟩
  case slEmpty b m o a' hb =>
    refine ⟨_, rfl, ?_⟩
    exact run_bytesToString (P := P) w a' 0 0 [] (by simp [loadCells, loadCellsFrom])
  case sl b m o l c c' hb hl hc =>
    simp only [Option.bind_eq_some_iff, Option.map_eq_some_iff] at h
    obtain ⟨cs, h1, bs, h2, rfl⟩ := h
    refine ⟨_, rfl, ?_⟩
    obtain ⟨ns, rfl, rfl⟩ := toBytes_spec h2
    have hl : (loadCells ⟨m.blk, m.sh + o, none⟩ l).run P w = .ok (ns.map (Value.int .u8)).toArray w := by
      split at h1
      · rename_i h0
        subst h0
        cases ns with
        | nil => simp [loadCells, loadCellsFrom]
        | cons a b => simp at h1
      · obtain ⟨cs', g1, g2, g3, g5, g4⟩ := row_sim hs hb h1
        have := plains_eq g1 (by intro v hv; simp at hv; obtain ⟨a, _, rfl⟩ := hv; rfl)
        subst this
        have := run_loadCells_list (P := P) w ⟨m.blk, m.sh + o, none⟩ (ns.map (Value.int .u8)) (fun j v hv => by rw [addA]; exact g4 j v hv)
        rw [g3] at this
        exact this
    have := run_bytesToString (P := P) w ⟨m.blk, m.sh + o, none⟩ l c' ns hl
    rw [this, foldl_push_bytes]
    congr 2
    simp [ByteArray.empty, ByteArray.emptyWithCapacity]
    rfl

theorem Stp.allocW {φ : Phi} {H : AHeap} {w w' : World} (hs : Sim φ H w) {m : Emb} {o : AObj} (hm : m.blk = w.heap.size) (hos : w'.os = w.os) (htape : w'.tape = w.tape) (hout : w'.output = w.output)
    (hsize : w.heap.size ≤ w'.heap.size) (hold : ∀ k, k < w.heap.size → w'.heap[k]? = w.heap[k]?) (ho : ObjR (φ.add H.next m) m w' o) : Stp φ H w (φ.add H.next m) (H.add o) w' := by
  have hfr := hs.fresh
  have hlt : ∀ {b mb}, φ b = some mb → H.get b ≠ .dead → mb.blk < w.heap.size := fun hb hd => hs.blk_lt hb hd
  have hs' : Sim φ H w' := ⟨hs.dom, fun b mb hb => by
    by_cases hd : H.get b = .dead
    · rw [hd]; trivial
    · exact ObjR.mono (.refl _) (hold _ (hlt hb hd)) (hs.obj b mb hb), hs.inj⟩
  obtain ⟨h1, h2⟩ := Stp.adopt hs' (m := m) (o := o) ho (fun b mb hb he => Classical.byContradiction fun hd => by have := hlt hb hd; omega) w.heap.size (fun k hk he => by omega)
  refine ⟨Phi.add_le hfr, h1, hos, htape, hout, hsize, fun k hk _ => hold k hk, h2, by simp, ?_⟩
  intro b hb hn
  rw [AHeap.get_add, if_neg (by omega)]
  refine ⟨rfl, ?_⟩
  unfold Phi.add; rw [if_neg (by omega)]; exact hn

theorem s2b_rel {φ : Phi} {H : AHeap} {w : World} (hs : Sim φ H w) {src dst e : TypeId} {u : TypeDesc} (h1 : P.underlying src = some u) (h2 : P.underlying dst = some (.slice e)) (h3 : P.underlying e = some (.int .u8)) (s : ByteArray) :
    ∃ v' w' φ', (convert src dst (.string s)).run P w = .ok v' w' ∧ VR φ' (.slice (some ⟨H.next, 0, none⟩) s.size s.size) v' ∧ Stp φ H w φ' (H.add (.cells (byteVals s) 1 false)) w' := by
  have hge := grownCap_ge w s.size 0 e
  have hrun := Lib.run_convert_string_bytes (P := P) w src dst e s h1 h2 h3
  have hcells : (Lib.bytesCells w e s).toList = byteVals s ++ List.replicate (grownCap w s.size 0 e - s.size) (.int .u8 0) := by simp [Lib.bytesCells, byteVals]
  have hsz : (Lib.bytesCells w e s).size = grownCap w s.size 0 e := by
    have := congrArg List.length hcells
    simp only [Array.length_toList, List.length_append, List.length_replicate, byteVals_length] at this
    rw [this]; exact Nat.add_sub_cancel' hge
  have hnew := Lib.bytesWorld_at_new w e s
  have hm : φ.add H.next ⟨w.heap.size, 0, s.size, grownCap w s.size 0 e, 1⟩ = φ.add H.next ⟨w.heap.size, 0, s.size, grownCap w s.size 0 e, 1⟩ := rfl
  have hal : Stp φ H w (φ.add H.next ⟨w.heap.size, 0, s.size, grownCap w s.size 0 e, 1⟩) (H.add (.cells (byteVals s) 1 false)) (Lib.bytesWorld w e s) := by
    refine Stp.allocW hs rfl rfl ?_ rfl (by rw [Lib.bytesWorld_size]; omega) (fun k hk => Lib.bytesWorld_at_old w e s k hk) ?_
    · rfl
    · refine ⟨byteVals_length s, hge, rfl, byteVals_one s, _, e, _, hnew, by simp only [Nat.zero_add, hsz]; exact Nat.le_refl _, ?_, fun _ => .inr (Nat.le_refl _)⟩
      intro i v hv
      have hi : i < (byteVals s).length := (List.getElem?_eq_some_iff.1 hv).1
      refine ⟨v, ?_, ?_⟩
      · rw [Nat.zero_add, ← Array.getElem?_toList, hcells, List.getElem?_append_left hi]; exact hv
      · have := List.mem_of_getElem? hv
        simp only [byteVals, List.mem_map] at this
        obtain ⟨b, _, rfl⟩ := this
        exact .int _ _
  refine ⟨_, _, _, hrun, ?_, hal⟩
  have := VR.sl (φ := φ.add H.next ⟨w.heap.size, 0, s.size, grownCap w s.size 0 e, 1⟩) (b := H.next) (m := ⟨w.heap.size, 0, s.size, grownCap w s.size 0 e, 1⟩) (o := 0) (l := s.size) (c := s.size)
      (c' := grownCap w s.size 0 e) (Phi.add_self _ _ _) (Nat.le_refl _) (.inr ⟨hge, by simp, by simp, by simp⟩)
  simpa using this

theorem same_rel {φ : Phi} {H : AHeap} {w : World} (hs : Sim φ H w) {b : Nat} {m : Emb} (hb : φ b = some m) (hw : (H.get b).writable = true) {cs : List Value} {es : Nat} (hg : H.get b = .cells cs es false) (o : Nat) :
    ∃ w', (markStringish ⟨m.blk, o, none⟩).run P w = .ok () w' ∧ Stp φ H w φ H w' := by
  have ho := hs.obj b m hb
  rw [hg] at ho
  obtain ⟨h1, h2, h3, h4, C, el, fr, h5, h6, h7, h8⟩ := ho
  have hsh : w.shape? m.blk = some (el, C.size) := by simp [World.shape?, h5]
  have hrun : (markStringish ⟨m.blk, o, none⟩).run P w = .ok () (w.freeze ⟨m.blk, C.size, none⟩ 1) := by
    simp only [markStringish, Sem.run_bind, run_shape, hsh, Result.andThen_ok, run_freeze]
  have hfz : (w.freeze ⟨m.blk, C.size, none⟩ 1).heap[m.blk]? = some (.cells C el (if fr.1 == fr.2 then (C.size, C.size + 1) else (min fr.1 C.size, max fr.2 (C.size + 1)))) := by
    obtain ⟨lo, hi⟩ := fr
    simp only [World.freeze, Nat.one_ne_zero, if_false, Array.getElem?_modify, if_true, h5, Option.map_some]
  refine ⟨_, hrun, ?_⟩
  have hput := Stp.put (w' := w.freeze ⟨m.blk, C.size, none⟩ 1) (o := .cells cs es false) hs hb hw rfl ⟨h1, h2, h3, h4, C, el, _, hfz, h6, h7, fun _ => ?_⟩ rfl rfl rfl (by simp [World.freeze]) (fun k hk => by
    simp only [World.freeze, Nat.one_ne_zero, if_false, Array.getElem?_modify]
    rw [if_neg (Ne.symm hk)])
  · refine ⟨.refl _, ?_, hput.os, hput.tape, hput.output, hput.size, hput.keep, fun k hk h => h, Nat.le_refl _, fun _ _ h => ⟨rfl, h⟩⟩
    have hsame : ∀ c, (H.set b (.cells cs es false)).get c = H.get c := by
      intro c; rw [AHeap.get_set]; split
      · rename_i e; subst e; exact hg.symm
      · rfl
    refine ⟨hs.dom, fun c mc hc => ?_, hs.inj⟩
    have := hput.sim.obj c mc hc
    rwa [hsame] at this
  · have := h8 rfl
    split
    · right; exact Nat.le_refl _
    · rename_i hne
      simp at hne
      rcases this with h | h
      · exact absurd h hne
      · right; simp; omega

end Go.E
