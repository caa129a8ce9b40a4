/-
  THE EVALUATOR WITH CHOICES, PART ZP: slices.Sort, as it is known by its contract.
-/
import Derived.Test.YtgbnjcmjioiclaaDoorEwZo
import Derived.Sort.Grow
import Derived.Sort.EncStr
set_option linter.unusedSimpArgs false
set_option linter.unusedVariables false
set_option linter.unusedSectionVars false
namespace Go.E
open Go Go.Proofs
theorem Stp.grow {φ : Phi} {H : AHeap} {w : World} (hs : Sim φ H w) (os : Array Obj) : Stp φ H w φ H (Sort.grow w os) := by
  have hk : ∀ k, k < w.heap.size → (Sort.grow w os).heap[k]? = w.heap[k]? := fun k hk => Sort.heap_grow_old w os hk
  refine ⟨.refl _, ⟨hs.dom, fun b m hb => ?_, hs.inj⟩, rfl, rfl, rfl, by simp, fun k h _ => hk k h, fun _ _ h => h, Nat.le_refl _, fun _ _ h => ⟨rfl, h⟩⟩
  by_cases hd : H.get b = .dead
  · rw [hd]; trivial
  · exact ObjR.mono (.refl _) (hk _ (hs.blk_lt hb hd)) (hs.obj b m hb)

section
variable {α : Type} [Inhabited α] (enc : α → Value) (srt : List α → List α)
def SortAt (P : Program) (f : Nat) : Prop :=
  (∀ (blk off cap : Nat) (zs : List α) (w : World), Sort.Holds enc w blk off zs.toArray → blk < w.heap.size → zs.length < 4611686018427387904 →
    Calls P f #[.slice (some ⟨blk, off, none⟩) zs.length cap] w fun e w' => e = .returned (.tuple #[]) ∧ ∃ n os, w' = Sort.grow (Sort.putRow enc (Sort.ahead w n) blk off (srt zs).toArray) os) ∧
  ∀ (p : Option Addr) (cap : Nat) (w : World), Calls P f #[.slice p 0 cap] w fun e w' => e = .returned (.tuple #[]) ∧ w' = w

def sortStep (f : Nat) (g : Fid) (args : List Value) (H : AHeap) (R : Value → AHeap → Prop) : Prop :=
  g = .fn f ∧ ((∃ p c, args = [.slice p 0 c] ∧ R (.tuple ⟨[]⟩) H) ∨
    ∃ b off c cs es zs, args = [.slice (some ⟨b, off, none⟩) zs.length c] ∧ H.get b = .cells cs es false ∧ off + zs.length ≤ cs.length ∧ (cs.drop off).take zs.length = zs.map enc ∧ zs.length < 4611686018427387904 ∧
      R (.tuple ⟨[]⟩) (H.set b (.cells (cs.take off ++ (srt zs).map enc ++ cs.drop (off + zs.length)) es false)))

variable {enc srt}
theorem sort_sound {P : Program} {f : Nat} (h : SortAt enc srt P f) (hfn : ∃ fn, P.funcs[f]? = some fn ∧ fn.body.isSome = true ∧ fn.name ≠ "runtime.NumGoroutine") (henc : ∀ a φ v', VR φ (enc a) v' → v' = enc a) (henc' : ∀ a φ, VR φ (enc a) (enc a)) (hone : ∀ a, (enc a).oneCell' = true) (hlen : ∀ zs, (srt zs).length = zs.length)
    {g : Fid} {args : List Value} {H : AHeap} {R : Value → AHeap → Prop} (hst : sortStep enc srt f g args H R) {φ : Phi} {args' : List Value} {w : World} (ha : VRs φ args args') (hs : Sim φ H w) : FidOk P (GivesR φ H w R) φ args'.toArray w g := by
  obtain ⟨rfl, hst⟩ := hst
  refine ⟨hfn, ?_⟩
  rcases hst with ⟨p, c, rfl, hR⟩ | ⟨b, off, c, cs, es, zs, rfl, hg, hle, hzs, hbig, hR⟩
  · obtain ⟨p', c', rfl⟩ : ∃ p' c', args' = [.slice p' 0 c'] := by
      cases ha with
      | cons hv hr =>
        cases hr
        cases hv with
        | slNil => exact ⟨_, _, rfl⟩
        | slEmpty => exact ⟨_, _, rfl⟩
        | sl => exact ⟨_, _, rfl⟩
        
    refine (h.2 p' c' w).mono ?_
    rintro e w' ⟨rfl, rfl⟩
    exact ⟨_, _, hR, φ, _, rfl, .tuple .nil, .refl hs⟩
  by_cases h0 : zs.length = 0
  · -- no element
    have hz : zs = [] := List.eq_nil_of_length_eq_zero h0
    subst hz
    obtain ⟨p', c', rfl⟩ : ∃ p' c', args' = [.slice p' 0 c'] := by
      cases ha with
      | cons hv hr =>
        cases hr
        cases hv with
        | slEmpty => exact ⟨_, _, rfl⟩
        | sl => exact ⟨_, _, rfl⟩
    have hsz : srt [] = [] := List.eq_nil_of_length_eq_zero (hlen [])
    refine (h.2 p' c' w).mono ?_
    rintro e w' ⟨rfl, rfl⟩
    rw [hsz] at hR
    simp only [List.map_nil, List.append_nil, List.length_nil, Nat.add_zero, List.take_append_drop] at hR
    refine ⟨_, _, hR, φ, _, rfl, .tuple .nil, ?_⟩
    -- a block set to what it is
    by_cases hb : ∃ m, φ b = some m
    · obtain ⟨m, hm⟩ := hb
      refine Stp.put' hs hm (by rw [hg]; rfl) ?_ rfl rfl rfl rfl fun _ _ => rfl
      have := hs.obj b m hm
      rwa [hg] at this
    · have hb : φ b = none := by
        cases hm : φ b with
        | none => rfl
        | some m => exact absurd ⟨m, hm⟩ hb
      have hget : ∀ x, (H.set b (.cells cs es false)).get x = H.get x := fun x => by
        rw [AHeap.get_set]
        split
        · rename_i e; rw [e, hg]
        · rfl
      refine ⟨.refl _, ⟨hs.dom, fun x m hx => by rw [hget]; exact hs.obj x m hx, fun x y m1 m2 h1 h2 h3 h4 h5 => by rw [hget] at h5 ⊢; exact hs.inj x y m1 m2 h1 h2 h3 h4 h5⟩, rfl, rfl, rfl, Nat.le_refl _, fun _ _ _ => rfl, fun k _ ⟨x, m, h1, h2, h3⟩ => ⟨x, m, h1, h2, by rwa [hget] at h3⟩, Nat.le_refl _, fun x _ hx => ⟨hget x, hx⟩⟩
  -- elements
  obtain ⟨m, c', rfl, hm⟩ : ∃ (m : Emb) (c' : Nat), args' = [.slice (some ⟨m.blk, m.sh + off, none⟩) zs.length c'] ∧ φ b = some m := by
    cases ha with
    | cons hv hr =>
      cases hr
      generalize hz : zs.length = n at hv h0
      cases hv with
      | slEmpty => exact absurd rfl h0
      | sl hb _ _ => exact ⟨_, _, rfl, hb⟩
  have hob := hs.obj b m hm
  rw [hg] at hob
  obtain ⟨g1, g2, g3, g4, Cc, el, fr, g5, g6, g7, g8⟩ := hob
  have hCsz : m.sh + cs.length ≤ Cc.size := by omega
  have hval : ∀ j, j < zs.length → ∃ a, zs[j]? = some a ∧ Cc[m.sh + (off + j)]? = some (enc a) := by
    intro j hj
    refine ⟨zs[j], by simp, ?_⟩
    have e := congrArg (fun l => l[j]?) hzs
    simp only [List.getElem?_take, hj, if_true, List.getElem?_drop, List.getElem?_map] at e
    rw [List.getElem?_eq_getElem hj, Option.map_some] at e
    obtain ⟨v', hv1, hv2⟩ := g7 _ _ e
    rw [henc _ _ _ hv2] at hv1
    exact hv1
  have hH : Sort.Holds enc w m.blk (m.sh + off) zs.toArray := by
    intro j hj
    have hj' : j < zs.length := by simpa using hj
    obtain ⟨a, ha1, ha2⟩ := hval j hj'
    have hjC : m.sh + off + j < Cc.size := by omega
    refine ⟨?_, ?_⟩
    · simp only [World.cell?, g5]
      rw [show m.sh + off + j = m.sh + (off + j) by omega, ha2]
      have : zs.toArray[j]! = a := by
        have h2 := List.getElem?_eq_some_iff.1 ha1
        obtain ⟨h3, h4⟩ := h2
        rw [getElem!_pos zs.toArray j (by simpa using h3)]
        simpa using h4
      rw [this]
      rfl
    · simp only [World.frozen?, g5]
      obtain ⟨lo, hi⟩ := fr
      have := g8 rfl
      simp only at this ⊢
      rcases this with h | h
      · simp; omega
      · simp; omega
  have hblk : m.blk < w.heap.size := (Array.getElem?_eq_some_iff.1 g5).1
  refine (h.1 m.blk (m.sh + off) c' zs w hH hblk hbig).mono ?_
  rintro e w' ⟨rfl, n, os, rfl⟩
  refine ⟨_, _, hR, φ, _, rfl, .tuple .nil, ?_⟩
  have st0 : Stp φ H w φ H (Sort.ahead w n) := Stp.drew hs _
  have hput : (Sort.putRow enc (Sort.ahead w n) m.blk (m.sh + off) (srt zs).toArray).heap[m.blk]? = some (.cells (Sort.putCells enc (m.sh + off) (srt zs).toArray Cc) el fr) := by
    unfold Sort.putRow Sort.mapBlock
    simp only [Array.getElem?_modify, if_true]
    rw [show (Sort.ahead w n).heap[m.blk]? = some (.cells Cc el fr) from g5]
    rfl
  have hsl := hlen zs
  have hpsz : (Sort.putCells enc (m.sh + off) (srt zs).toArray Cc).size = Cc.size := by simp [Sort.putCells]
  have st1 : Stp φ H (Sort.ahead w n) φ (H.set b (.cells (cs.take off ++ (srt zs).map enc ++ cs.drop (off + zs.length)) es false)) (Sort.putRow enc (Sort.ahead w n) m.blk (m.sh + off) (srt zs).toArray) := by
    refine Stp.put' st0.sim hm (by rw [hg]; rfl) ?_ rfl rfl rfl (by simp) fun k hk => ?_
    · refine ⟨?_, g2, g3, ?_, _, el, fr, hput, by rw [hpsz]; exact g6, ?_, fun h => by rw [hpsz]; exact g8 h⟩
      · simp only [List.length_append, List.length_take, List.length_map, List.length_drop, hsl]; omega
      · intro v hv
        simp only [List.mem_append, List.mem_map] at hv
        rcases hv with (hv | ⟨a, _, rfl⟩) | hv
        · exact g4 v (List.mem_of_mem_take hv)
        · exact hone a
        · exact g4 v (List.mem_of_mem_drop hv)
      · intro i v hv
        have hi : i < cs.length := by
          have := (List.getElem?_eq_some_iff.1 hv).1
          simp only [List.length_append, List.length_take, List.length_map, List.length_drop, hsl] at this
          omega
        have hiC : m.sh + i < Cc.size := by omega
        have hpc : (Sort.putCells enc (m.sh + off) (srt zs).toArray Cc)[m.sh + i]? = some (if m.sh + off ≤ m.sh + i ∧ m.sh + i < m.sh + off + (srt zs).toArray.size then enc (srt zs).toArray[m.sh + i - (m.sh + off)]! else Cc[m.sh + i]) := by
          unfold Sort.putCells
          simp [hiC]
        by_cases h1 : i < off
        · rw [List.append_assoc, List.getElem?_append_left (by simp; omega), List.getElem?_take, if_pos h1] at hv
          obtain ⟨v', h2, h3⟩ := g7 i v hv
          refine ⟨v', ?_, h3⟩
          rw [hpc, if_neg (by omega)]
          rw [← h2, Array.getElem?_eq_getElem hiC]
        · by_cases h2 : i < off + zs.length
          · rw [List.append_assoc, List.getElem?_append_right (by simp; omega), List.getElem?_append_left (by simp [hsl]; omega)] at hv
            simp only [List.length_take, List.getElem?_map] at hv
            rw [show min off cs.length = off by omega] at hv
            have hlt : i - off < (srt zs).length := by omega
            rw [List.getElem?_eq_getElem hlt, Option.map_some] at hv
            cases hv
            refine ⟨_, ?_, henc' _ _⟩
            rw [hpc, if_pos (by simp [hsl]; omega)]
            rw [show m.sh + i - (m.sh + off) = i - off by omega]
            rw [getElem!_pos (srt zs).toArray (i - off) (by simpa using hlt)]
            simp
          · rw [List.append_assoc, List.getElem?_append_right (by simp; omega), List.getElem?_append_right (by simp [hsl]; omega)] at hv
            simp only [List.length_take, List.length_map, List.getElem?_drop, hsl] at hv
            rw [show off + zs.length + (i - min off cs.length - zs.length) = i by omega] at hv
            obtain ⟨v', h4, h5⟩ := g7 i v hv
            refine ⟨v', ?_, h5⟩
            rw [hpc, if_neg (by simp [hsl]; omega)]
            rw [← h4, Array.getElem?_eq_getElem hiC]
    · unfold Sort.putRow Sort.mapBlock
      simp only [Array.getElem?_modify]
      rw [if_neg (Ne.symm hk)]
  exact st0.trans (st1.trans (Stp.grow st1.sim os))

def extSort {P : Program} {G : Nat} (f : Nat) (h : SortAt enc srt P f) (hfn : ∃ fn, P.funcs[f]? = some fn ∧ fn.body.isSome = true ∧ fn.name ≠ "runtime.NumGoroutine") (henc : ∀ a φ v', VR φ (enc a) v' → v' = enc a) (henc' : ∀ a φ, VR φ (enc a) (enc a)) (hone : ∀ a, (enc a).oneCell' = true) (hlen : ∀ zs, (srt zs).length = zs.length) : Extra P G where
  step _ := sortStep enc srt f
  mono _ h k := by
    obtain ⟨h1, h2⟩ := h
    refine ⟨h1, ?_⟩
    rcases h2 with ⟨p, c, h3, h4⟩ | ⟨b, off, c, cs, es, zs, h3, h4, h5, h6, h7, h8⟩
    · exact .inl ⟨p, c, h3, k _ _ h4⟩
    · exact .inr ⟨b, off, c, cs, es, zs, h3, h4, h5, h6, h7, k _ _ h8⟩
  feas h := by
    obtain ⟨h1, h2⟩ := h
    rcases h2 with ⟨p, c, h3, h4⟩ | ⟨b, off, c, cs, es, zs, h3, h4, h5, h6, h7, h8⟩
    · exact ⟨_, _, h4⟩
    · exact ⟨_, _, h8⟩
  sound _ _ _ _ _ hst _ _ _ _ ha hs := sort_sound h hfn henc henc' hone hlen hst ha hs
end
theorem encI_only (a : Int) (φ : Phi) (v' : Value) (h : VR φ (.int .i64 a) v') : v' = .int .i64 a := by cases h; rfl
theorem encI_self (a : Int) (φ : Phi) : VR φ (.int .i64 a) (.int .i64 a) := .int _ _
end Go.E
