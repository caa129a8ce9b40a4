/-
  THE EVALUATOR, PART E: append, copy, clear, slices' cuts, maps, comparisons.
-/
import Derived.Test.YtlkgacbholklkaaEwD
set_option linter.unusedSimpArgs false
set_option linter.unusedVariables false
namespace Go.E
open Go
variable {P : Program}
theorem lenV_rel {φ : Phi} {x x' : Value} (h : VR φ x x') {k : Nat} (hk : lenV x = some k) (w : World) : (Builtin.lenOf x').run P w = .ok k w := by
  cases h <;> simp [lenV] at hk <;> subst hk <;> rfl

theorem byteVals_rel (φ : Phi) (s : ByteArray) : VRs φ (byteVals s) (byteVals s) := by
  unfold byteVals
  induction s.data.toList with
  | nil => exact .nil
  | cons b r ih => exact .cons (.int _ _) ih

theorem byteVals_one (s : ByteArray) : ∀ v ∈ byteVals s, v.oneCell' = true := by
  intro v hv
  simp only [byteVals, List.mem_map] at hv
  obtain ⟨b, _, rfl⟩ := hv
  rfl

theorem byteVals_length (s : ByteArray) : (byteVals s).length = s.size := by simp [byteVals]

theorem firstCells_zero {φ : Phi} {es : Nat} {x x' : Value} (hx : VR φ x x') {k0 : Nat} (hk0 : lenV x = some k0) (w : World) : (Builtin.firstCells es 0 x').run P w = .ok #[] w := by
  cases hx <;> simp [lenV] at hk0
  · simp [Builtin.firstCells]
  · simp [Builtin.firstCells]
  · simp [Builtin.firstCells, loadCells, loadCellsFrom]
  · simp [Builtin.firstCells, loadCells, loadCellsFrom]

theorem src_rel {φ : Phi} {H : AHeap} {w : World} (hs : Sim φ H w) {es : Nat} {x x' : Value} (hx : VR φ x x') {k k0 : Nat} {xs : List Value} (hk0 : lenV x = some k0) (hk : k ≤ k0) (h : H.src es x k = some xs) :
    ∃ xs', VRs φ xs xs' ∧ xs.length = k * es ∧ (∀ v ∈ xs, v.oneCell' = true) ∧ ∀ n, (Builtin.firstCells es k x').run P { w with drawn := n } = .ok xs'.toArray { w with drawn := n } := by
  unfold AHeap.src at h
  by_cases hk' : k = 0
  · subst hk'
    simp at h; subst h
    exact ⟨[], .nil, by simp, by simp, fun n => firstCells_zero hx hk0 _⟩
  rw [if_neg hk'] at h
  cases hx with
  | slNil => simp [lenV] at hk0; omega
  | slEmpty a a' _ => simp [lenV] at hk0; omega
  | sl hb hl hc =>
    rename_i b m o l c c'
    obtain ⟨cs', h1, h2, h3, h5, h4⟩ := row_sim hs hb h
    refine ⟨cs', h1, h2, h5, fun n => ?_⟩
    simp only [Builtin.firstCells]
    rw [← h3]
    exact run_loadCells_list (P := P) { w with drawn := n } ⟨m.blk, m.sh + o, none⟩ cs' (fun j v hv => by rw [addA]; exact h4 j v hv)
  | str s =>
    simp [lenV] at hk0
    simp only at h
    split at h
    case isFalse => cases h
    rename_i he
    subst he
    cases h
    refine ⟨_, (byteVals_rel φ s).take k, by simp [byteVals_length]; omega, fun v hv => byteVals_one s v (List.mem_of_mem_take hv), fun n => ?_⟩
    simp only [Builtin.firstCells, Sem.run_pure]
    congr 1
    apply Array.ext'
    simp [byteVals, ByteArray.data_extract, List.map_take]
  | _ => simp [lenV] at hk0

theorem zeroCells_size (z : Array Value) (n : Nat) : (Builtin.zeroCells z n).size = n * z.size := by simp [Builtin.zeroCells]

theorem run_append_room' {t u ty e : TypeId} (ht : P.underlying t = some (.slice e)) (hu : (∃ f, P.underlying u = some (.slice f)) ∨ P.underlying u = some .string) {es : Nat} (he : sizeI P e = some es)
    {base : Option Addr} {l c k : Nat} {x' : Value} {xs' : List Value} {w w' : World} (hlen : ∀ w, (Builtin.lenOf x').run P w = .ok k w) (hroom : l + k ≤ c)
    (hf : (Builtin.firstCells es k x').run P w = .ok xs'.toArray w) (hst : ∀ a, base = some a → (storeCells (a.add (l * es)) xs').run P w = .ok () w') (hn : base = none → w' = w) :
    (Builtin.append_ #[t, u] ty #[.slice base l c, x']).run P w = .ok (.slice base (l + k) c) w' := by
  have hz : ((P.underlying u).map fun d => match d with | .int _ => true | _ => false) = some false := by
    rcases hu with ⟨f, hu⟩ | hu <;> simp [hu]
  have hu' : ∃ d, P.underlying u = some d ∧ (match d with | .int _ => true | _ => false) = false := by
    rcases hu with ⟨f, hu⟩ | hu
    · exact ⟨_, hu, rfl⟩
    · exact ⟨_, hu, rfl⟩
  obtain ⟨d, hud, hd⟩ := hu'
  cases base with
  | none =>
    have := hn rfl; subst this
    rcases hu with ⟨f, hu⟩ | hu <;>
    simp [Builtin.append_, run_underlying ht, run_underlying hu, run_sizeOf' he, hlen, hroom, hf]
  | some a =>
    have := hst a rfl
    rcases hu with ⟨f, hu⟩ | hu <;>
    simp [Builtin.append_, run_underlying ht, run_underlying hu, run_sizeOf' he, hlen, hroom, hf, this]

theorem run_append_grow' {t u ty e : TypeId} (ht : P.underlying t = some (.slice e)) (hu : (∃ f, P.underlying u = some (.slice f)) ∨ P.underlying u = some .string) {i : TypeInfo} (hi : P.info? e = some i) {z : Value} (hz : i.zero = some z)
    {base : Option Addr} {l c k : Nat} {x' : Value} {olds xs' : List Value} {w : World} (hlen : ∀ w, (Builtin.lenOf x').run P w = .ok k w) (hroom : ¬ l + k ≤ c)
    (h63 : l + k ≤ 2147483648) (hb0 : 0 < i.bytes) (hb : i.bytes ≤ 65536)
    (hfo : (Builtin.firstCells i.size l (.slice base l c)).run P w.drew = .ok olds.toArray w.drew) (hf : (Builtin.firstCells i.size k x').run P w.drew = .ok xs'.toArray w.drew) :
    (Builtin.append_ #[t, u] ty #[.slice base l c, x']).run P w =
      .ok (.slice (some ⟨w.heap.size, 0, none⟩) (l + k) (grownCap w (l + k) c e))
        (w.drew.alloc (.cells (olds ++ xs' ++ (Builtin.zeroCells z.cells (grownCap w (l + k) c e - (l + k))).toList).toArray e)) := by
  have h63' : ¬ (9223372036854775807 < ((l : Int) + (k : Int))) := by omega
  have hfit : Builtin.nextslicecap (l + k) c * i.bytes ≤ 281474976710656 := growslice_fits (by omega) (by
    have := Nat.mul_le_mul h63 hb
    omega)
  have h48' : ¬ (281474976710656 < Builtin.nextslicecap (l + k) c * i.bytes) := by omega
  rcases hu with ⟨f, hu⟩ | hu
  · simp [Builtin.append_, run_underlying ht, run_underlying hu, sizeOf, typeInfo, zeroValue, hi, hz, hlen, hroom, h63', h48', Question.forced, hfo, hf, newRow, grownCap]
    congr 2
    apply Array.ext'
    simp
  · simp [Builtin.append_, run_underlying ht, run_underlying hu, sizeOf, typeInfo, zeroValue, hi, hz, hlen, hroom, h63', h48', Question.forced, hfo, hf, newRow, grownCap]
    congr 2
    apply Array.ext'
    simp

structure SrcRun (P : Program) (t u ty e : TypeId) (es : Nat) (zv : Value) (k : Nat) (x' : Value) (xs' : List Value) (w : World) : Prop where
  room : ∀ base l c w', l + k ≤ c → (∀ a, base = some a → (storeCells (a.add (l * es)) xs').run P w = .ok () w') → (base = none → w' = w) → (Builtin.append_ #[t, u] ty #[.slice base l c, x']).run P w = .ok (.slice base (l + k) c) w'
  grow : ∀ base l c olds, ¬ l + k ≤ c → l + k ≤ limit → (Builtin.firstCells es l (.slice base l c)).run P w.drew = .ok (List.toArray olds) w.drew → (Builtin.append_ #[t, u] ty #[.slice base l c, x']).run P w =
      .ok (.slice (some ⟨w.heap.size, 0, none⟩) (l + k) (grownCap w (l + k) c e)) (w.drew.alloc (.cells (olds ++ xs' ++ (Builtin.zeroCells zv.cells (grownCap w (l + k) c e - (l + k))).toList).toArray e))

theorem Stp.takeOver {φ : Phi} {H : AHeap} {w : World} (hs : Sim φ H w) {b : Nat} {m : Emb} (hb : φ b = some m) {full : List Value} {es : Nat} (hg : H.get b = .cells full es false)
    {C : Array Value} {el : TypeId} {fr : Nat × Nat} (hC : w.heap[m.blk]? = some (.cells C el fr)) {o n room : Nat} {cs cs' : List Value} (C' : Array Value) (hsz : C'.size = C.size) (hroom : m.sh + o + room ≤ C.size) (hn : cs.length ≤ room)
    (hone : ∀ v ∈ cs, v.oneCell' = true) (hcells : ∀ (i : Nat) v, cs[i]? = some v → ∃ v', C'[m.sh + o + i]? = some v' ∧ VR φ v v') (hfr : fr.1 = fr.2 ∨ C.size ≤ fr.1) :
    Stp φ H w (φ.add H.next ⟨m.blk, m.sh + o, cs.length, room, es⟩) ((H.set b .dead).add (.cells cs es false)) (w.setRow m.blk C') := by
  have hk := Stp.kill hs hb
  have hfree : ∀ c mc, φ c = some mc → mc.blk = m.blk → (H.set b .dead).get c = .dead := by
    intro c mc hc he
    rw [AHeap.get_set]
    by_cases e : c = b
    · rw [if_pos e]
    · rw [if_neg e]; exact hs.inj b c m mc hb hc he.symm (Ne.symm e) (by rw [hg]; rfl)
  have hs2 : Sim φ (H.set b .dead) (w.setRow m.blk C') := ⟨hk.sim.dom, fun c mc hc => by
    by_cases e : mc.blk = m.blk
    · rw [hfree c mc hc e]; trivial
    · exact ObjR.mono (.refl _) (setRow_other w m.blk _ _ e) (hk.sim.obj c mc hc), hk.sim.inj⟩
  have hfresh : (H.set b .dead).next = H.next := rfl
  obtain ⟨h1, h2⟩ := Stp.adopt hs2 (m := ⟨m.blk, m.sh + o, cs.length, room, es⟩) (o := .cells cs es false)
    ⟨rfl, hn, rfl, hone, C', el, fr, setRow_heap w m.blk C C' el fr hC, by rw [hsz]; exact hroom, fun i v hv => by
      obtain ⟨v', a, b⟩ := hcells i v hv
      exact ⟨v', a, b.mono (Phi.add_le hs2.fresh)⟩, fun _ => by rw [hsz]; exact hfr⟩
    hfree 0 (fun k hk => by omega)
  rw [hfresh] at h1
  refine ⟨Phi.add_le hs.fresh, h1, rfl, rfl, rfl, by simp, ?_, ?_, by simp, ?_⟩
  · intro k hk hn
    refine setRow_other w m.blk k _ fun e => hn ⟨b, m, hb, e.symm, by rw [hg]; rfl⟩
  · rintro k hk ⟨c, mc, hc, rfl, hcw⟩
    rw [AHeap.get_add, hfresh] at hcw
    unfold Phi.add at hc
    split at hc
    · cases hc; exact ⟨b, m, hb, rfl, by rw [hg]; rfl⟩
    · rename_i e
      rw [if_neg e, AHeap.get_set] at hcw
      split at hcw
      · cases hcw
      · exact ⟨c, mc, hc, rfl, hcw⟩
  · intro c hc hn
    rw [AHeap.get_add, hfresh, if_neg (by omega), AHeap.get_set, if_neg (by intro e; subst e; rw [hb] at hn; cases hn)]
    refine ⟨rfl, ?_⟩
    unfold Phi.add; rw [if_neg (by omega)]; exact hn

theorem firstCells_base {φ : Phi} {H : AHeap} {w : World} (hs : Sim φ H w) {b o l c c' es : Nat} {m : Emb} (hb : φ b = some m) {full : List Value} {es' : Nat} {ro : Bool} (hg : H.get b = .cells full es' ro) (hle : o + l * es ≤ full.length) :
    ∃ olds, VRs φ ((full.drop o).take (l * es)) olds ∧ olds.length = l * es ∧ ∀ n, (Builtin.firstCells es l (.slice (some ⟨m.blk, m.sh + o, none⟩) l c')).run P { w with drawn := n } = .ok olds.toArray { w with drawn := n } := by
  obtain ⟨cs', h1, h2, h3, h5, h4⟩ := row_sim hs hb (b := b) (o := o) (n := l * es) (cs := (full.drop o).take (l * es)) (by simp [AHeap.row, hg, hle])
  refine ⟨cs', h1, h3, fun n => ?_⟩
  simp only [Builtin.firstCells]
  rw [← h3]
  exact run_loadCells_list (P := P) { w with drawn := n } ⟨m.blk, m.sh + o, none⟩ cs' (fun j v hv => by rw [addA]; exact h4 j v hv)

theorem append_new {φ : Phi} {H : AHeap} {w : World} (hs : Sim φ H w) {t u ty e : TypeId}
    {z : List Value} {es by_ : Nat} (hz : zeroInfo P e = some (z, es, by_)) {zv : Value} (hzz : (P.info? e).bind (·.zero) = some zv) {base : Option Addr} {l c k : Nat} {x' : Value} {old olds xs xs' : List Value}
    (hsrc : SrcRun P t u ty e es zv k x' xs' w) (hroom : ¬ l + k ≤ c) (hlim : l + k ≤ limit)
    (ho : VRs φ old olds) (hol : olds.length = l * es) (hoone : ∀ v ∈ old, v.oneCell' = true) (hfo : ∀ n, (Builtin.firstCells es l (.slice base l c)).run P { w with drawn := n } = .ok olds.toArray { w with drawn := n })
    (hx : VRs φ xs xs') (hxl : xs'.length = k * es) (hxone : ∀ v ∈ xs, v.oneCell' = true) :
    ∃ v' w' φ', (Builtin.append_ #[t, u] ty #[.slice base l c, x']).run P w = .ok v' w' ∧ VR φ' (.slice (some ⟨H.next, 0, none⟩) (l + k) (l + k)) v' ∧ Stp φ H w φ' (H.add (.cells (old ++ xs) es false)) w' := by
  obtain ⟨i, zv0, hi, hzv, rfl, rfl, rfl, _, hzl, hpos, hb0, hb1, _⟩ := zeroInfo_spec hz
  obtain rfl : zv = zv0 := by rw [hi] at hzz; exact Option.some.inj (hzz.symm.trans hzv)
  have hrun := hsrc.grow base l c olds hroom hlim (hfo _)
  have hge := grownCap_ge w (l + k) c e
  have hst := Stp.drew hs (w.drawn + 1)
  have hr := ho.append hx
  have hlen2 : (old ++ xs).length = (l + k) * i.size := by
    have := hr.length
    rw [this, List.length_append, hol, hxl, Nat.add_mul]
  have hext : ((Builtin.zeroCells zv.cells (grownCap w (l + k) c e - (l + k))).toList).length = (grownCap w (l + k) c e - (l + k)) * i.size := by
    have e1 : zv.cells.size = i.size := by simpa [cellsL] using hzl
    simp only [Array.length_toList, zeroCells_size, e1]
  have hal := Stp.allocCells hst.sim hr (fun v hv => by rcases List.mem_append.1 hv with h | h; exact hoone v h; exact hxone v h) i.size e (0, 0) (extra := (Builtin.zeroCells zv.cells (grownCap w (l + k) c e - (l + k))).toList) (.inl rfl)
  refine ⟨_, _, _, hrun, ?_, hst.trans hal⟩
  have hsum : (old ++ xs).length + ((Builtin.zeroCells zv.cells (grownCap w (l + k) c e - (l + k))).toList).length = grownCap w (l + k) c e * i.size := by
    rw [hlen2, hext, ← Nat.add_mul]; congr 1; omega
  have := VR.sl (φ := φ.add H.next ⟨w.heap.size, 0, (old ++ xs).length, (old ++ xs).length + ((Builtin.zeroCells zv.cells (grownCap w (l + k) c e - (l + k))).toList).length, i.size⟩) (b := H.next) (o := 0) (l := l + k) (c := l + k)
    (c' := grownCap w (l + k) c e) (Phi.add_self _ _ _) (Nat.le_refl _) (.inr ⟨hge, hpos, by simp only [Nat.zero_add]; exact hlen2.symm, by simp only [Nat.zero_add]; omega⟩)
  simpa using this

theorem appendK_rel {φ : Phi} {H H' : AHeap} {w : World} (hs : Sim φ H w) {t u ty e : TypeId}
    {z : List Value} {es by_ : Nat} (hz : zeroInfo P e = some (z, es, by_)) {zv : Value} (hzz : (P.info? e).bind (·.zero) = some zv) {base : Option Addr} {l c k : Nat} {s' x' v : Value} {src : Option (List Value)} (hS : VR φ (.slice base l c) s')
    (hsrc0 : k = 0 → SrcRun P t u ty e es zv k x' [] w) (hsrc : ∀ xs, src = some xs → ∃ xs', VRs φ xs xs' ∧ xs.length = k * es ∧ (∀ v ∈ xs, v.oneCell' = true) ∧ SrcRun P t u ty e es zv k x' xs' w) (h : H.appendK es base l c k src = some (v, H')) :
    ∃ v' w' φ', (Builtin.append_ #[t, u] ty #[s', x']).run P w = .ok v' w' ∧ VR φ' v v' ∧ Stp φ H w φ' H' w' := by
  have hzs := zeroInfo_spec hz
  obtain ⟨i0, zv0, hi0, hzv0, hz1, hz2, hz3, _, hzl, hpos, hb0, hb1, _⟩ := hzs
  have he : sizeI P e = some es := by simp [sizeI, hi0, hz2]
  unfold AHeap.appendK at h
  split at h
  case isTrue hroom =>
    -- there is room
    cases hS with
    | slNil =>
      obtain rfl : k = 0 := by omega
      simp only [Option.some.injEq, Prod.mk.injEq] at h
      obtain ⟨rfl, rfl⟩ := h
      exact ⟨_, w, φ, (hsrc0 rfl).room _ _ _ _ hroom (fun a ha => by cases ha) (fun _ => rfl), .slNil, .refl hs⟩
    | slEmpty a a' hbm =>
      obtain rfl : k = 0 := by omega
      simp only [if_true, Option.some.injEq, Prod.mk.injEq] at h
      obtain ⟨rfl, rfl⟩ := h
      exact ⟨_, w, φ, (hsrc0 rfl).room _ _ _ _ hroom (fun b hb => rfl) (fun _ => rfl), .slEmpty _ _ hbm, .refl hs⟩
    | sl hb hl hc =>
      rename_i b m o c'
      have hcc : c ≤ c' := by rcases hc with h | h <;> omega
      by_cases hk0 : k = 0
      · subst hk0
        simp only [if_true, Option.some.injEq, Prod.mk.injEq] at h
        obtain ⟨rfl, rfl⟩ := h
        exact ⟨_, w, φ, (hsrc0 rfl).room _ _ _ _ (show l + 0 ≤ c' by omega) (fun b hb => rfl) (fun h => by cases h), .sl hb hl hc, .refl hs⟩
      · simp only [if_neg hk0, Option.bind_eq_some_iff, Option.map_eq_some_iff] at h
        obtain ⟨xs, hx, H1, hp, heq⟩ := h
        cases heq
        obtain ⟨xs', hx1, hx2, hx3, hx4⟩ := hsrc xs hx
        obtain ⟨w', h1, h2⟩ := putRow_sim (P := P) hs hb hx1 hp
        refine ⟨_, w', φ, hx4.room _ _ _ _ (show l + k ≤ c' by omega) (fun a ha => ?_) (fun h => by cases h), .sl hb hroom hc, h2⟩
        cases ha
        rw [addA, Nat.add_assoc]
        exact h1
  case isFalse hroom =>
    split at h
    case isFalse => cases h
    rename_i hlim
    simp only [Option.bind_eq_some_iff] at h
    obtain ⟨xs, hx, h⟩ := h
    obtain ⟨xs', hx1, hx2, hx3, hx4⟩ := hsrc xs hx
    have hx2' : xs'.length = k * es := by rw [← hx1.length, hx2]
    cases hS with
    | slNil =>
      simp only [Option.some.injEq, Prod.mk.injEq] at h
      obtain ⟨rfl, rfl⟩ := h
      have := append_new (P := P) (ty := ty) hs hz hzz (old := []) (olds := []) (base := none) (l := 0) (c := 0) hx4 hroom hlim .nil (by simp) (by simp) (fun n => by simp [Builtin.firstCells]) hx1 hx2' hx3
      simpa using this
    | slEmpty a a' hbm =>
      simp only at h
      have hfo : ∀ n, (Builtin.firstCells es 0 (.slice (some a') 0 0)).run P { w with drawn := n } = .ok #[] { w with drawn := n } := fun n => by simp [Builtin.firstCells, loadCells, loadCellsFrom]
      split at h
      case h_2 => cases h
      rename_i cs es' ro hg
      split at h
      case isFalse => cases h
      simp only [Nat.zero_mul, List.take_zero, List.nil_append] at h
      split at h
      · split at h
        case isFalse => cases h
        rename_i hc1 hc2
        cases h
        have hkl := Stp.kill hs hbm
        obtain ⟨v', w', φ', h1, h2, h3⟩ := append_new (P := P) (ty := ty) hkl.sim hz hzz (old := []) (olds := []) (base := some a') (l := 0) (c := 0) hx4 hroom hlim .nil (by simp) (by simp) hfo hx1 hx2' hx3
        exact ⟨v', w', φ', h1, h2, hkl.trans h3⟩
      · cases h
        exact append_new (P := P) (ty := ty) hs hz hzz (old := []) (olds := []) (base := some a') (l := 0) (c := 0) hx4 hroom hlim .nil (by simp) (by simp) hfo hx1 hx2' hx3
    | sl hb hl hc =>
      rename_i b m o c'
      simp only at h
      split at h
      case h_2 => cases h
      rename_i full es' ro hg
      split at h
      case isFalse => cases h
      rename_i hle
      obtain ⟨olds, ho1, ho2, ho3⟩ := firstCells_base (P := P) hs hb (c := c) (c' := c') hg hle
      have hob := hs.obj b m hb
      rw [hg] at hob
      obtain ⟨hl1, hr1, hes, hone, C, el, fr, hC, hsz, hcells, hfr⟩ := hob
      have hoone : ∀ v ∈ (full.drop o).take (l * es), v.oneCell' = true := fun v hv => hone v (List.mem_of_mem_drop (List.mem_of_mem_take hv))
      by_cases hin : l + k ≤ c'
      · -- in place, in the machine
        rcases hc with hc | ⟨hc1, hc2, hc3, hc4⟩
        · omega
        subst hes
        rw [if_pos ⟨by omega, by omega⟩] at h
        split at h
        case isFalse => cases h
        rename_i hro
        obtain ⟨rfl, rfl⟩ := hro
        cases h
        have hmul : (l + k) * m.es ≤ c' * m.es := Nat.mul_le_mul_right _ hin
        have hst := run_storeCells_gen (P := P) m.blk (m.sh + o + l * m.es) el fr xs' 0 C w hC (hfr rfl) (by rw [Nat.add_mul] at hmul; omega) (hx1.allOne hx3)
        simp only [Nat.add_zero] at hst
        have hlen2 : ((full.drop o).take (l * m.es) ++ xs).length = (l + k) * m.es := by rw [List.length_append, ho1.length, ho2, hx2, Nat.add_mul]
        have hto := Stp.takeOver hs hb hg hC (o := o) (n := 0) (room := m.room - o) (cs := (full.drop o).take (l * m.es) ++ xs) (cs' := []) (C.toList.take (m.sh + o + l * m.es) ++ xs' ++ C.toList.drop (m.sh + o + l * m.es + xs'.length)).toArray
          (by rw [Nat.add_mul] at hmul; simp; omega) (by omega) (by omega)
          (fun v hv => by rcases List.mem_append.1 hv with h | h; exact hoone v h; exact hx3 v h)
          (fun i v hv => by
            have hol := ho1.length
            rw [ho2] at hol
            simp only [List.getElem?_toArray]
            rw [List.getElem?_append, List.getElem?_append]
            simp only [List.length_append, List.length_take, Array.length_toList]
            rw [Nat.add_mul] at hmul
            rw [Nat.min_eq_left (show m.sh + o + l * m.es ≤ C.size by omega)]
            rw [List.getElem?_append] at hv
            split at hv
            · rename_i h1
              rw [hol] at h1
              rw [if_pos (by omega), if_pos (by omega)]
              rw [List.getElem?_take, if_pos h1, List.getElem?_drop] at hv
              rw [List.getElem?_take, if_pos (by omega)]
              have := hcells _ v hv
              simpa [Nat.add_assoc] using this
            · rename_i h1
              rw [hol] at h1
              rw [hol] at hv
              have hi : i - l * m.es < xs.length := (List.getElem?_eq_some_iff.1 hv).1
              rw [if_pos (by omega), if_neg (by omega)]
              have := hx1.get _ v hv
              rwa [show m.sh + o + i - (m.sh + o + l * m.es) = i - l * m.es by omega])
          (hfr rfl)
        refine ⟨_, _, _, hx4.room _ _ _ _ hin (fun a ha => ?_) (fun h => by cases h), ?_, hto⟩
        · cases ha
          rw [addA]
          exact hst
        · have := VR.sl (φ := φ.add H.next ⟨m.blk, m.sh + o, ((full.drop o).take (l * m.es) ++ xs).length, m.room - o, m.es⟩) (b := H.next) (o := 0) (l := l + k) (c := l + k) (c' := c')
            (Phi.add_self _ _ _) (Nat.le_refl _) (.inr ⟨hin, hc2, by simp only [Nat.zero_add]; exact hlen2.symm, by simp only [Nat.zero_add]; omega⟩)
          simpa using this
      · split at h
        · split at h
          case isFalse => cases h
          cases h
          have hkl := Stp.kill hs hb
          obtain ⟨v', w', φ', h1, h2, h3⟩ := append_new (P := P) (ty := ty) hkl.sim hz hzz (base := some ⟨m.blk, m.sh + o, none⟩) (l := l) (c := c') hx4 hin hlim ho1 ho2 hoone ho3 hx1 hx2' hx3
          exact ⟨v', w', φ', h1, h2, hkl.trans h3⟩
        · cases h
          exact append_new (P := P) (ty := ty) hs hz hzz (base := some ⟨m.blk, m.sh + o, none⟩) (l := l) (c := c') hx4 hin hlim ho1 ho2 hoone ho3 hx1 hx2' hx3


theorem append_rel {φ : Phi} {H H' : AHeap} {w : World} (hs : Sim φ H w) {t u ty e : TypeId} (ht : P.underlying t = some (.slice e)) (hu : (∃ f, P.underlying u = some (.slice f)) ∨ P.underlying u = some .string)
    {z : List Value} {es by_ : Nat} (hz : zeroInfo P e = some (z, es, by_)) {s s' x x' v : Value} (hS : VR φ s s') (hX : VR φ x x') (h : H.appendV es s x = some (v, H')) :
    ∃ v' w' φ', (Builtin.append_ #[t, u] ty #[s', x']).run P w = .ok v' w' ∧ VR φ' v v' ∧ Stp φ H w φ' H' w' := by
  obtain ⟨i0, zv0, hi0, hzv0, hz1, hz2, hz3, _, hzl, hpos, hb0, hb1, _⟩ := zeroInfo_spec hz
  have he : sizeI P e = some es := by simp [sizeI, hi0, hz2]
  unfold AHeap.appendV at h
  split at h
  case h_2 => cases h
  rename_i base l c k hk
  have hlen := fun w => lenV_rel (P := P) hX hk w
  have mk : ∀ xs', (∀ n, (Builtin.firstCells es k x').run P { w with drawn := n } = .ok (List.toArray xs') { w with drawn := n }) → SrcRun P t u ty e es zv0 k x' xs' w := fun xs' hf =>
    ⟨fun base l c w' hroom hst hn => run_append_room' ht hu he hlen hroom (hf w.drawn) hst hn, fun base l c olds hroom hlim hfo => by
      subst hz2
      exact run_append_grow' ht hu hi0 hzv0 hlen hroom hlim (by omega) (by omega) hfo (hf _)⟩
  refine appendK_rel hs hz (zv := zv0) (by simp [hi0, hzv0]) hS (fun hk0 => ?_) (fun xs hx => ?_) h
  · subst hk0
    exact mk [] fun n => firstCells_zero hX hk _
  · obtain ⟨xs', hx1, hx2, hx3, hx4⟩ := src_rel (P := P) hs hX hk (Nat.le_refl _) hx
    exact ⟨xs', hx1, hx2, hx3, mk xs' hx4⟩

end Go.E
