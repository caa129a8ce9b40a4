/- The pseudo terminal with Canon alone: what a line is (plain Lean). -/
import Derived.Test.YtfgejkhhkacknaaDoorPtPieces
namespace Go.E.Pty
open Go Go.E Go.Proofs.YtfgejkhhkacknaaDoor.base Go.Proofs.YtfgejkhhkacknaaDoor Go.Proofs
set_option linter.unusedVariables false
set_option linter.unusedSimpArgs false
set_option maxRecDepth 100000

/-- a record that is a line: at most 255 bytes, only its last is a line feed -/
def LineOk (d : List Int) : Prop := d.length ≤ 255 ∧ (∀ i, d[i]? = some 10 → i + 1 = d.length) ∧ ∀ x ∈ d, (0 : Int) ≤ x ∧ x ≤ 255

structure LInv (s : PT) : Prop where
  modes : s.modes = 1
  stopped : s.stopped = false
  hung : s.hung = false
  line : s.line.length ≤ 254
  noLf : ∀ x ∈ s.line, x ≠ 10
  rng : ∀ x ∈ s.line, (0 : Int) ≤ x ∧ x ≤ 255
  recs : ∀ x ∈ s.input, LineOk x.1
  out : ∀ x ∈ s.output, x = 7

theorem has1 {s : PT} (h : s.modes = 1) : s.has 1 = true ∧ s.has 2 = false ∧ s.has 4 = false ∧ s.has 8 = false ∧ s.has 16 = false ∧ s.has 32 = false := by
  unfold PT.has
  rw [h]
  exact ⟨show (!decide (bitAnd .i64 1 1 = 0)) = true by decide +kernel, show (!decide (bitAnd .i64 1 2 = 0)) = false by decide +kernel, show (!decide (bitAnd .i64 1 4 = 0)) = false by decide +kernel, show (!decide (bitAnd .i64 1 8 = 0)) = false by decide +kernel, show (!decide (bitAnd .i64 1 16 = 0)) = false by decide +kernel, show (!decide (bitAnd .i64 1 32 = 0)) = false by decide +kernel⟩

theorem lineOk_of {l : List Int} (h1 : l.length ≤ 254) (h2 : ∀ x ∈ l, x ≠ 10) (h3 : ∀ x ∈ l, (0 : Int) ≤ x ∧ x ≤ 255) : LineOk l :=
  ⟨by omega, fun i hi => absurd rfl (h2 10 (List.mem_of_getElem? hi)), h3⟩
theorem lineOk_lf {l : List Int} {b : Int} (h1 : l.length ≤ 254) (h2 : ∀ x ∈ l, x ≠ 10) (h3 : ∀ x ∈ l, (0 : Int) ≤ x ∧ x ≤ 255) (hb : (0 : Int) ≤ b ∧ b ≤ 255) : LineOk (l ++ [b]) := by
  refine ⟨by simp; omega, fun i hi => ?_, fun x hx => by
    simp only [List.mem_append, List.mem_singleton] at hx
    rcases hx with hx | rfl
    · exact h3 x hx
    · exact hb⟩
  by_cases h : i < l.length
  · rw [List.getElem?_append_left h] at hi
    exact absurd rfl (h2 10 (List.mem_of_getElem? hi))
  · have := (List.getElem?_eq_some_iff.1 hi).1
    simp at this ⊢
    omega

theorem echo1 {s : PT} (h : s.modes = 1) (l : List Int) : s.echo l = s := by
  unfold PT.echo; rw [(has1 h).2.1]; rfl
theorem erase1 {s : PT} (h : s.modes = 1) : s.erase = { s with line := s.line.take (s.line.length - 1) } := by
  unfold PT.erase
  split
  · exact echo1 (s := { s with line := s.line.take (s.line.length - 1) }) h _
  · rename_i hl
    have : s.line = [] := List.eq_nil_of_length_eq_zero (by omega)
    cases s; simp_all

theorem LInv.erase {s : PT} (h : LInv s) : LInv s.erase := by
  rw [erase1 h.modes]
  exact ⟨h.modes, h.stopped, h.hung, by have := h.line; simp only [List.length_take]; omega, fun x hx => h.noLf x (List.mem_of_mem_take hx), fun x hx => h.rng x (List.mem_of_mem_take hx), h.recs, h.out⟩
theorem LInv.iter {s : PT} (h : LInv s) : ∀ n, LInv (iter PT.erase n s)
  | 0 => h
  | n + 1 => (LInv.iter h n).erase

theorem LInv.process {s : PT} (h : LInv s) {b : Int} (hb : (0 : Int) ≤ b ∧ b ≤ 255) : LInv (s.process b) := by
  obtain ⟨k1, k2, k4, k8, k16, k32⟩ := has1 h.modes
  unfold PT.process
  rw [k32, k4, k1, if_neg (by simp), if_neg (by simp), if_neg (by simp)]
  split
  · exact ⟨h.modes, h.stopped, h.hung, by simp [PT.endL], by simp [PT.endL], by simp [PT.endL], fun x hx => by
      simp only [PT.endL, List.mem_append, List.mem_singleton] at hx
      rcases hx with hx | rfl
      · exact h.recs x hx
      · exact lineOk_of h.line h.noLf h.rng, h.out⟩
  split
  · unfold PT.next
    rw [echo1 (by exact h.modes)]
    exact ⟨h.modes, h.stopped, h.hung, by simp [PT.endL], by simp [PT.endL], by simp [PT.endL], fun x hx => by
      simp only [PT.endL, List.mem_append, List.mem_singleton] at hx
      rcases hx with hx | rfl
      · exact h.recs x hx
      · exact lineOk_lf h.line h.noLf h.rng hb, h.out⟩
  rename_i hb4 hb10
  split
  · exact h.iter _
  split
  · exact h.erase
  split
  · unfold PT.outs
    simp only [List.foldl_cons, List.foldl_nil, PT.out1]
    exact ⟨h.modes, h.stopped, h.hung, h.line, h.noLf, h.rng, h.recs, fun x hx => by
      simp only [List.mem_append] at hx
      rcases hx with hx | hx
      · exact h.out x hx
      · simpa using hx⟩
  · rename_i hl
    rw [echo1 (by exact h.modes)]
    exact ⟨h.modes, h.stopped, h.hung, by simp; omega, fun x hx => by
      simp only [List.mem_append, List.mem_singleton] at hx
      rcases hx with hx | rfl
      · exact h.noLf x hx
      · exact hb10, fun x hx => by
      simp only [List.mem_append, List.mem_singleton] at hx
      rcases hx with hx | rfl
      · exact h.rng x hx
      · exact hb, h.recs, h.out⟩

theorem LInv.go {s : PT} (h : LInv s) : ∀ (l : List Int), (∀ x ∈ l, (0 : Int) ≤ x ∧ x ≤ 255) → LInv (typeGo s l).2 := by
  intro l hl
  induction l generalizing s with
  | nil => exact h
  | cons b l ih =>
    simp only [typeGo]
    split
    · refine ih (h.process ?_) fun x hx => hl x (by simp [hx])
      unfold PT.map
      split
      · omega
      · exact hl b (by simp)
    · exact h
theorem LInv.type {s : PT} (h : LInv s) (l : List Int) (hl : ∀ x ∈ l, (0 : Int) ≤ x ∧ x ≤ 255) : LInv (s.type l).2.2 := by
  unfold PT.type
  split
  · exact h
  split
  · exact h
  split
  · exact h.go l hl
  split
  · exact h.go l hl
  · exact h.go l hl
theorem LInv.new : LInv (PT.new 1) := ⟨rfl, rfl, rfl, by simp [PT.new], by simp [PT.new], by simp [PT.new], by simp [PT.new], by simp [PT.new]⟩

theorem LInv.read {s : PT} (h : LInv s) : LInv (s.read 5000).2.2.2 ∧ ((s.read 5000).2.2.1 = 0 → LineOk (s.read 5000).1 ∧ ((s.read 5000).2.1 = decide ((s.read 5000).1 = []))) := by
  unfold PT.read
  rw [if_neg (by decide), if_neg (by decide)]
  split
  · rw [if_neg (by rw [h.hung]; simp)]
    exact ⟨h, fun h => by simp at h⟩
  · rename_i d r rest hin
    have hd := h.recs (d, r) (by rw [hin]; simp)
    have hl := hd.1
    have hm : (min (5000 : Int) (d.length : Int)).toNat = d.length := by simp only at hl; omega
    simp only [hm, List.take_length, List.drop_length, if_true]
    exact ⟨⟨h.modes, h.stopped, h.hung, h.line, h.noLf, h.rng, fun x hx => h.recs x (by rw [hin]; simp [hx]), h.out⟩, fun _ => ⟨hd, by first | rfl | trivial⟩⟩

/-- the first place of a byte, -1 if there is none -/
def ixI : List Int → Int → Int
  | [], _ => -1
  | b :: l, c => if b = c then 0 else if ixI l c = -1 then -1 else ixI l c + 1
theorem u8_eq {a b : Int} (ha : (0 : Int) ≤ a ∧ a ≤ 255) (hb : (0 : Int) ≤ b ∧ b ≤ 255) : (UInt8.ofNat a.toNat == b.toNat.toUInt8) = decide (a = b) := by
  obtain ⟨a, rfl⟩ := Int.eq_ofNat_of_zero_le ha.1
  obtain ⟨b, rfl⟩ := Int.eq_ofNat_of_zero_le hb.1
  have h1 : a < 256 := by omega
  have h2 : b < 256 := by omega
  rw [Bool.eq_iff_iff]
  simp only [Int.toNat_natCast, beq_iff_eq, decide_eq_true_eq]
  constructor
  · intro h
    have := congrArg UInt8.toNat h
    simp only [Nat.toUInt8, UInt8.toNat_ofNat', UInt8.toNat_ofNat] at this
    omega
  · intro h
    have : a = b := by omega
    subst this; rfl
theorem ixI_eq {c : Int} (hc : (0 : Int) ≤ c ∧ c ≤ 255) : ∀ {l : List Int}, (∀ x ∈ l, (0 : Int) ≤ x ∧ x ≤ 255) → Go.Lib.indexByte (l.map fun n => UInt8.ofNat n.toNat) c.toNat.toUInt8 = ixI l c
  | [], _ => rfl
  | b :: l, h => by
    have ih := ixI_eq hc (l := l) fun x hx => h x (by simp [hx])
    simp only [List.map_cons, Go.Lib.indexByte, ixI, u8_eq (h b (by simp)) hc, ih, decide_eq_true_eq, beq_iff_eq]
theorem ixI_ge : ∀ (l : List Int) (c : Int), -1 ≤ ixI l c
  | [], _ => by simp [ixI]
  | b :: l, c => by
    have := ixI_ge l c
    unfold ixI
    split
    · omega
    · split <;> omega
theorem ixI_get {c : Int} : ∀ {l : List Int}, 0 ≤ ixI l c → l[(ixI l c).toNat]? = some c
  | [], h => by simp [ixI] at h
  | b :: l, h => by
    unfold ixI at h ⊢
    split
    · rename_i hb; subst hb; rfl
    · rename_i hb
      rw [if_neg hb] at h
      split at h
      · omega
      · rename_i h1
        rw [if_neg h1]
        have h2 := ixI_ge l c
        have := ixI_get (l := l) (c := c) (by omega)
        rw [show (ixI l c + 1).toNat = (ixI l c).toNat + 1 by omega, List.getElem?_cons_succ, this]
end Go.E.Pty
