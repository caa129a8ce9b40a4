/- The law's helpers: ends, do. -/
import Derived.Test.YtgmmkajjigmjoaaPiPl
import Derived.Test.YtgmmkajjigmjoaaPiActs
namespace Go.E.Pi
open Go Go.E Go.Proofs.Ytgmmkajjigmjoaa Go.Proofs
set_option linter.unusedVariables false
set_option linter.unusedSimpArgs false
set_option maxRecDepth 100000

def endC (e : EndM) (vd : Value) : List Value := [.int .i64 e.thread, vd, .int .i64 e.count, .int .i64 e.err]
theorem endA_at {H : AHeap} {e : EndM} {cs : List Value} {o : List Nat} (h : (endA e cs).f H o) : ∃ a c, cs = endC e (.slice a e.data.length c) ∧ SlO H 1 (.slice a e.data.length c) (u8s e.data) o := by
  obtain ⟨vd, h⟩ := h
  cases h with
  | cons h1 h2 => cases h2 with
    | cons h3 h4 =>
      cases h4
      obtain ⟨rfl, h3⟩ := h3
      have h5 : SlO H 1 vd (u8s e.data) _ := h1
      obtain ⟨a, c, rfl⟩ := h5.shape1
      rw [u8s_length] at h3 h5
      exact ⟨a, c, h3, by simpa using h5⟩
theorem endA_rd {B : AHeap} {As : List Asn} {es : List EndM} {css : List (List Value)} {i : Nat} {e : EndM} {vd : Value} (hx : es[i]? = some e) (hc : css[i]? = some (endC e vd)) : RD B (many endA es css :: As) 1 vd (u8s e.data) := fun H h => by
  obtain ⟨cs, o, h1, h2, h3⟩ := S.many_at h hx
  rw [hc] at h1
  cases h1
  obtain ⟨a, c, h4, h5⟩ := endA_at h2
  unfold endC at h4
  injection h4 with _ h4
  injection h4 with h4 _
  subst h4
  exact ⟨o, h5.rd, h3⟩

theorem prog_len : ∀ (k : Nat) (s : PP) (acc : List EndM), mu s ≤ k → Ok s → (prog s acc).1.length ≤ acc.length + mu s := by
  intro k
  induction k with
  | zero =>
    intro s acc hk hok
    have hi : stepI s = none := by
      cases h : stepI s with
      | none => rfl
      | some r => have := stepI_mu (fun w hw => (hok.ws w hw).1) (show stepI s = some (r.1, r.2) from h); omega
    rw [prog_none hi]
    exact Nat.le_add_right _ _
  | succ k ih =>
    intro s acc hk hok
    rcases hi : stepI s with _ | ⟨e, s1⟩
    · rw [prog_none hi]
      exact Nat.le_add_right _ _
    · have := stepI_mu (fun w hw => (hok.ws w hw).1) hi
      rw [prog_some hok hi]
      have h1 := ih s1 (acc ++ e.toList) (by omega) (stepI_ok hi hok)
      have h2 : e.toList.length ≤ 1 := by cases e <;> simp
      rw [List.length_append] at h1
      omega
theorem ends_le {s : PP} (hok : Ok s) : (prog s []).1.length ≤ 1000000 := by
  have h1 := prog_len _ s [] (Nat.le_refl _) hok
  have h2 := mu_le hok
  simp only [List.length_nil] at h1
  omega
theorem closeR_le {s : PP} (hok : Ok s) : s.closeR.1.length ≤ 1000000 := by
  unfold PP.closeR
  split
  · simp
  · split
    · simp
    · exact ends_le (okCR hok (by assumption))
theorem closeW_le {s : PP} (hok : Ok s) : s.closeW.1.length ≤ 1000000 := by
  unfold PP.closeW
  split
  · simp
  · split
    · simp
    · exact ends_le (okCW hok (by assumption))
theorem read_le {s : PP} (hok : Ok s) (t n : Int) (w : Bool) : (s.read t n w).ends.length ≤ 1000000 := by
  unfold PP.read
  repeat' split
  all_goals first | exact ends_le (okTake hok n) | simp
theorem write_le {s : PP} (hok : Ok s) (t : Int) (d : List Int) (w : Bool) : (s.write t d w).ends.length ≤ 1000000 := by
  unfold PP.write
  repeat' split
  all_goals first | exact ends_le (okPut hok d) | (simp; done) | skip
  rename_i h2 h3 h4 h5 h6 h7 h8 h9 h10
  refine ends_le (okQueue (okPut hok d) ?_ ⟨?_, ?_⟩)
  · show s.writers.length < 64
    exact Nat.lt_of_not_le fun hw => h8 ⟨.inr ⟨h10.2, by omega⟩, hw⟩
  · exact h10.1
  · show d.length ≤ 4096
    omega
end Go.E.Pi
