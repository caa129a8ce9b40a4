/- Both pipes go on alike: the plain part. -/
import Derived.Test.YtgmmkajjigmjoaaPiR56
import Derived.Test.YtgmmkajjigmjoaaPiF8
import Derived.Test.YtgmmkajjigmjoaaEngZb
import Derived.KernelRfl
namespace Go.E.Pi
open Go Go.E Go.Proofs.Ytgmmkajjigmjoaa Go.Proofs
set_option linter.unusedVariables false
set_option linter.unusedSimpArgs false
set_option maxRecDepth 100000
/-- what is to be written at once has not been begun -/
def AD (s : PP) : Prop := ∀ w ∈ s.writers, (w.data.length : Int) ≤ s.atomic → w.done = 0
theorem stepI_eq {s : PP} (hok : Ok s) (had : AD s) : stepI s = match stepWr s with | none => stepR s | some r => some r := by
  unfold stepI stepWr
  rcases hw : s.writers with _ | ⟨w, ws⟩
  · rfl
  have hwo := hok.ws w (by rw [hw]; simp)
  have hwd := had w (by rw [hw]; simp)
  have hbl := hok.buf
  simp only
  by_cases h0 : s.o0 = 0
  · rw [if_pos h0, if_pos h0]
  rw [if_neg h0, if_neg h0]
  have hfit : (s.fits w.data.length = true ∧ fitW s w = putN s w ∧ fitW s w ≠ 0) ∨ (s.fits w.data.length = false ∧ fitW s w = 0) := by
    unfold PP.fits fitW fitN putN
    by_cases ha : (w.data.length : Int) ≤ s.atomic
    · have hd := hwd ha
      rw [if_pos ha, decide_eq_true ha, hd, Nat.sub_zero, if_pos rfl]
      by_cases hl : w.data.length ≤ s.cap - s.buf.length
      · rw [if_pos hl]
        exact .inl ⟨decide_eq_true hl, by omega, by omega⟩
      · rw [if_neg hl]
        exact .inr ⟨decide_eq_false hl, rfl⟩
    · rw [if_neg ha, decide_eq_false ha, if_neg (show ¬ (false = true) by simp)]
      by_cases hf : 0 < s.cap - s.buf.length
      · refine .inl ⟨decide_eq_true hf, ?_, ?_⟩ <;> split <;> omega
      · refine .inr ⟨decide_eq_false hf, ?_⟩
        split <;> omega
  rcases hfit with ⟨h1, h2, h3⟩ | ⟨h1, h2⟩
  · rw [if_pos h1, if_neg h3, h2]
    by_cases hq : w.done + putN s w = w.data.length
    · rw [if_pos hq]
    · rw [if_neg hq]
  · rw [if_neg (by rw [h1]; simp), if_pos h2]
theorem stepWr_ad {s s' : PP} {e : Option EndM} (hok : Ok s) (had : AD s) (h : stepWr s = some (e, s')) : AD s' := by
  unfold stepWr at h
  split at h
  · cases h
  · rename_i w ws hw
    have hwo := hok.ws w (by rw [hw]; simp)
    have hwd := had w (by rw [hw]; simp)
    split at h
    · cases h
      intro x hx
      exact had x (by rw [hw]; exact List.mem_cons_of_mem _ hx)
    · split at h
      · cases h
      rename_i hf
      split at h
      · cases h
        intro x hx
        exact had x (by rw [hw]; exact List.mem_cons_of_mem _ hx)
      · rename_i hne
        cases h
        intro x hx hl
        simp only [List.mem_cons] at hx
        rcases hx with rfl | hx
        · exfalso
          have hd := hwd hl
          unfold fitW fitN at hf hne
          simp only at hl
          rw [decide_eq_true hl, hd] at hf hne
          split at hne
          · omega
          · rename_i hq
            rw [if_neg hq, if_pos rfl] at hf
            exact hf rfl
        · exact had x (by rw [hw]; exact List.mem_cons_of_mem _ hx) hl
theorem stepR_w {s s' : PP} {e : Option EndM} (h : stepR s = some (e, s')) : s'.writers = s.writers ∧ s'.atomic = s.atomic ∧ s.readers ≠ [] := by
  unfold stepR at h
  split at h
  · cases h
  · rename_i x rs hr
    split at h
    · cases h
      exact ⟨rfl, rfl, by rw [hr]; simp⟩
    · cases h
theorem stepR_ad {s s' : PP} {e : Option EndM} (had : AD s) (h : stepR s = some (e, s')) : AD s' := by
  obtain ⟨h1, h2, _⟩ := stepR_w h
  intro w hw
  rw [h2]
  exact had w (by rw [← h1]; exact hw)
theorem stepI_ad {s s' : PP} {e : Option EndM} (hok : Ok s) (had : AD s) (h : stepI s = some (e, s')) : AD s' := by
  rw [stepI_eq hok had] at h
  cases hw : stepWr s with
  | none => rw [hw] at h; exact stepR_ad had h
  | some r =>
    rw [hw] at h
    cases h
    exact stepWr_ad hok had hw
theorem stepWr_r {s s' : PP} {e : Option EndM} (h : stepWr s = some (e, s')) : s'.readers = s.readers ∧ s'.writers.length ≤ s.writers.length := by
  unfold stepWr at h
  split at h
  · cases h
  · rename_i w ws hw
    split at h
    · cases h
      exact ⟨rfl, by rw [hw]; simp⟩
    · split at h
      · cases h
      split at h
      · cases h
        exact ⟨rfl, by rw [hw]; simp⟩
      · cases h
        exact ⟨rfl, by rw [hw]; simp⟩
/-- after a lone writer has gone on, it cannot at once again -/
theorem stepWr_one {s s' : PP} {e : Option EndM} (hok : Ok s) (h : stepWr s = some (e, s')) (h1 : s.writers.length ≤ 1) : stepWr s' = none := by
  unfold stepWr at h
  split at h
  · cases h
  · rename_i w ws hw
    have hws : ws = [] := by
      rw [hw] at h1
      simp only [List.length_cons] at h1
      exact List.eq_nil_of_length_eq_zero (by omega)
    subst hws
    have hwo := hok.ws w (by rw [hw]; simp)
    have hbl := hok.buf
    split at h
    · cases h; rfl
    · rename_i h0
      split at h
      · cases h
      rename_i hf
      split at h
      · cases h; rfl
      · rename_i hne
        cases h
        have hle := fitW_le s w hbl
        have hfr : fitW s w = s.cap - s.buf.length := by
          unfold fitW fitN at hf hne ⊢
          split at hne
          · omega
          · rename_i hq
            rw [if_neg hq] at hf ⊢
            split at hf
            · exact absurd rfl hf
            · rename_i hq2
              rw [if_neg hq2]
        have hpl : ((w.data.drop w.done).take (fitW s w)).length = fitW s w := by
          simp only [List.length_take, List.length_drop]; omega
        unfold stepWr
        simp only
        rw [if_neg h0, if_pos]
        have hbl2 : (s.buf ++ (w.data.drop w.done).take (fitW s w)).length = s.cap := by
          rw [List.length_append, hpl, hfr]; omega
        unfold fitW fitN at hbl2 ⊢
        simp only
        rw [hbl2]
        have hfe : fitN s (w.data.length - w.done) (decide ((w.data.length : Int) ≤ s.atomic)) = fitW s w := rfl
        unfold fitN at hfe
        rw [hfe]
        rw [if_neg (by omega)]
        split
        · rfl
        · omega

theorem prog_eq : ∀ (k : Nat) (s : PP) (acc : List EndM), mu s ≤ k → Ok s → AD s → (s.writers.length ≤ 1 ∨ s.readers = []) → progQN (mu s + 1) s acc = prog s acc := by
  intro k
  induction k with
  | zero =>
    intro s acc hk hok had hc
    have h1 : stepWr s = none := by
      cases h : stepWr s with
      | none => rfl
      | some r => have := stepWr_mu hok (show stepWr s = some (r.1, r.2) from h); omega
    have h2 : stepR s = none := by
      cases h : stepR s with
      | none => rfl
      | some r => have := (stepR_mu (show stepR s = some (r.1, r.2) from h)).1; omega
    have hi : stepI s = none := by rw [stepI_eq hok had, h1, h2]
    rw [prog_none hi, progQN, if_neg]
    unfold turn
    rw [h1]
    simp only [resOf]
    rw [h2]
    simp
  | succ k ih =>
    intro s acc hk hok had hc
    rcases h1 : stepWr s with _ | ⟨e, s1⟩
    · rcases h2 : stepR s with _ | ⟨e, s1⟩
      · have hi : stepI s = none := by rw [stepI_eq hok had, h1, h2]
        rw [prog_none hi, progQN, if_neg]
        unfold turn
        rw [h1]
        simp only [resOf]
        rw [h2]
        simp
      · have hi : stepI s = some (e, s1) := by rw [stepI_eq hok had, h1, h2]
        rw [prog_some hok hi]
        have ht : turn s acc = (acc ++ e.toList, true, s1) := by
          unfold turn
          rw [h1]
          simp only [resOf]
          rw [h2]
          rfl
        have hmu := (stepR_mu h2).1
        obtain ⟨hw1, hw2, hrs⟩ := stepR_w h2
        have hok1 := stepR_ok h2 hok
        rw [progQN, if_pos (by rw [ht]), ht]
        simp only
        rw [progQN_more (m := mu s1 + 1) hok1 hmu (by omega)]
        exact ih s1 _ (by omega) hok1 (stepR_ad had h2) (by
          rcases hc with hc | hc
          · exact .inl (by rw [hw1]; exact hc)
          · exact absurd hc hrs)
    · have hi : stepI s = some (e, s1) := by rw [stepI_eq hok had, h1]
      have hmu1 := stepWr_mu hok h1
      have hok1 := stepWr_ok h1 hok
      have had1 := stepWr_ad hok had h1
      obtain ⟨hr1, hl1⟩ := stepWr_r h1
      rw [prog_some hok hi]
      rcases h2 : stepR s1 with _ | ⟨e2, s2⟩
      · have ht : turn s acc = (acc ++ e.toList, true, s1) := by
          unfold turn
          rw [h1]
          simp only [resOf]
          rw [h2]
          rfl
        rw [progQN, if_pos (by rw [ht]), ht]
        simp only
        rw [progQN_more (m := mu s1 + 1) hok1 hmu1 (by omega)]
        exact ih s1 _ (by omega) hok1 had1 (by
          rcases hc with hc | hc
          · exact .inl (by omega)
          · exact .inr (by rw [hr1]; exact hc))
      · have ht : turn s acc = (acc ++ e.toList ++ e2.toList, true, s2) := by
          unfold turn
          rw [h1]
          simp only [resOf]
          rw [h2]
          rfl
        obtain ⟨hw1, hw2, hrs⟩ := stepR_w h2
        have hc1 : s.writers.length ≤ 1 := by
          rcases hc with hc | hc
          · exact hc
          · exact absurd (hr1.trans hc) hrs
        have hi1 : stepI s1 = some (e2, s2) := by rw [stepI_eq hok1 had1, stepWr_one hok h1 hc1, h2]
        have hmu2 := (stepR_mu h2).1
        have hok2 := stepR_ok h2 hok1
        rw [prog_some hok1 hi1, progQN, if_pos (by rw [ht]), ht]
        simp only
        rw [progQN_more (m := mu s2 + 1) hok2 (by omega) (by omega)]
        exact ih s2 _ (by omega) hok2 (stepR_ad had1 h2) (.inl (by rw [hw1]; omega))
theorem progQ_eq {s : PP} (hok : Ok s) (had : AD s) (hc : s.writers.length ≤ 1 ∨ s.readers = []) : progQ s = prog s [] := prog_eq _ s [] (Nat.le_refl _) hok had hc

/-- at rest -/
structure Rest (s : PP) : Prop where
  ok : Ok s
  ad : AD s
  no : stepI s = none
theorem prog_rest {s : PP} (hok : Ok s) (had : AD s) (acc : List EndM) : Rest (prog s acc).2 := by
  suffices h : ∀ k (s : PP) acc, mu s ≤ k → Ok s → AD s → Rest (prog s acc).2 from h _ s acc (Nat.le_refl _) hok had
  intro k
  induction k with
  | zero =>
    intro s acc hk hok had
    have hi : stepI s = none := by
      cases h : stepI s with
      | none => rfl
      | some r => have := stepI_mu (fun w hw => (hok.ws w hw).1) (show stepI s = some (r.1, r.2) from h); omega
    rw [prog_none hi]
    exact ⟨hok, had, hi⟩
  | succ k ih =>
    intro s acc hk hok had
    rcases hi : stepI s with _ | ⟨e, s1⟩
    · rw [prog_none hi]
      exact ⟨hok, had, hi⟩
    · have := stepI_mu (fun w hw => (hok.ws w hw).1) hi
      rw [prog_some hok hi]
      exact ih s1 _ (by omega) (stepI_ok hi hok) (stepI_ad hok had hi)

theorem Rest.io {s : PP} (h : Rest s) : s.readers = [] ∨ s.writers = [] := by
  rcases hw : s.writers with _ | ⟨w, ws⟩
  · exact .inr rfl
  rcases hr : s.readers with _ | ⟨x, rs⟩
  · exact .inl rfl
  exfalso
  have hn := h.no
  have hok := h.ok
  have hwo := hok.ws w (by rw [hw]; simp)
  have hcap := hok.cap
  have hatm := hok.atm
  have hbl := hok.buf
  unfold stepI at hn
  rw [hw] at hn
  simp only at hn
  split at hn
  · cases hn
  · split at hn
    · split at hn <;> cases hn
    · rename_i hf
      unfold stepR at hn
      rw [hr] at hn
      simp only at hn
      split at hn
      · cases hn
      · rename_i hb
        have hb0 : s.buf.length = 0 := by
          rcases Nat.eq_zero_or_pos s.buf.length with h | h
          · exact h
          · exact absurd (.inl h) hb
        unfold PP.fits at hf
        split at hf
        · simp at hf; omega
        · simp at hf; omega
theorem Rest.cond {s : PP} (h : Rest s) : s.writers.length ≤ 1 ∨ s.readers = [] := by
  rcases h.io with h | h
  · exact .inr h
  · exact .inl (by rw [h]; simp)
/-- a state like one at rest -/
theorem Rest.wr {s : PP} (h : Rest s) : s.writers = [] → stepR s = none := by
  intro hw
  have := h.no
  unfold stepI at this
  rw [hw] at this
  exact this
theorem stepR_none {s : PP} : stepR s = none ↔ (s.readers = [] ∨ (s.buf.length = 0 ∧ ¬ (s.o1 = 0 ∧ s.writers.length = 0))) := by
  unfold stepR
  split
  · rename_i h; simp [h]
  · rename_i x rs h
    constructor
    · intro hn
      split at hn
      · cases hn
      · rename_i hb
        exact .inr ⟨by rcases Nat.eq_zero_or_pos s.buf.length with h | h; exact h; exact absurd (.inl h) hb, fun h => hb (.inr h)⟩
    · intro hn
      rcases hn with hn | hn
      · rw [h] at hn; cases hn
      · rw [if_neg (fun h => h.elim (fun h => by omega) hn.2)]
theorem stepI_none {s : PP} : stepI s = none ↔ (stepR s = none ∧ ∀ w ws, s.writers = w :: ws → s.o0 ≠ 0 ∧ s.fits w.data.length = false) := by
  unfold stepI
  split
  · rename_i h
    rw [h]
    constructor
    · intro h; exact ⟨h, fun _ _ h => by cases h⟩
    · exact fun h => h.1
  · rename_i w ws h
    rw [h]
    constructor
    · intro hn
      split at hn
      · cases hn
      · rename_i h0
        split at hn
        · split at hn <;> cases hn
        · rename_i hf
          exact ⟨hn, fun _ _ he => by cases he; exact ⟨h0, by simpa using hf⟩⟩
    · intro hn
      obtain ⟨h1, h2⟩ := hn.2 w ws rfl
      rw [if_neg h1, if_neg (by rw [h2]; simp)]
      exact hn.1

theorem Rest.openR {s : PP} (h : Rest s) : Rest s.openR.2 := by
  refine ⟨okOpenR h.ok, ?_, ?_⟩
  · unfold PP.openR; split <;> exact h.ad
  · obtain ⟨h1, h2⟩ := stepI_none.1 h.no
    have := h.ok.o0
    unfold PP.openR
    split
    · exact h.no
    · have h4 := stepR_none.1 h1
      have h3 : stepR { s with o0 := s.o0 + 1 } = none := stepR_none.2 h4
      exact stepI_none.2 ⟨h3, fun w ws hw => ⟨by simp only; omega, (h2 w ws hw).2⟩⟩
theorem Rest.openW {s : PP} (h : Rest s) : Rest s.openW.2 := by
  refine ⟨okOpenW h.ok, ?_, ?_⟩
  · unfold PP.openW; split <;> exact h.ad
  · obtain ⟨h1, h2⟩ := stepI_none.1 h.no
    have := h.ok.o1
    unfold PP.openW
    split
    · exact h.no
    · refine stepI_none.2 ⟨stepR_none.2 ?_, fun w ws hw => h2 w ws hw⟩
      rcases stepR_none.1 h1 with h1 | h1
      · exact .inl h1
      · exact .inr ⟨h1.1, fun h => by have := h.1; simp only at this; omega⟩
theorem Rest.closeR {s : PP} (h : Rest s) : s.closeRQ = s.closeR ∧ Rest s.closeR.2.2 := by
  unfold PP.closeRQ PP.closeR
  by_cases h1 : s.o0 = 0
  · rw [if_pos h1, if_pos h1]; exact ⟨rfl, h⟩
  rw [if_neg h1, if_neg h1]
  by_cases h2 : s.o0 = 1 ∧ 0 < s.readers.length
  · rw [if_pos h2, if_pos h2]; exact ⟨rfl, h⟩
  rw [if_neg h2, if_neg h2]
  have hok := okCR h.ok h1
  have had : AD { s with o0 := s.o0 - 1 } := h.ad
  rw [progQ_eq hok had h.cond]
  exact ⟨rfl, prog_rest hok had _⟩
theorem Rest.closeW {s : PP} (h : Rest s) : s.closeWQ = s.closeW ∧ Rest s.closeW.2.2 := by
  unfold PP.closeWQ PP.closeW
  by_cases h1 : s.o1 = 0
  · rw [if_pos h1, if_pos h1]; exact ⟨rfl, h⟩
  rw [if_neg h1, if_neg h1]
  by_cases h2 : s.o1 = 1 ∧ 0 < s.writers.length
  · rw [if_pos h2, if_pos h2]; exact ⟨rfl, h⟩
  rw [if_neg h2, if_neg h2]
  have hok := okCW h.ok h1
  have had : AD { s with o1 := s.o1 - 1 } := h.ad
  rw [progQ_eq hok had h.cond]
  exact ⟨rfl, prog_rest hok had _⟩
theorem Rest.read {s : PP} (h : Rest s) (t n : Int) (w : Bool) : s.readQ t n w = s.read t n w ∧ Rest (s.read t n w).s := by
  unfold PP.readQ PP.read
  by_cases h1 : t < 0 ∨ 256 ≤ t ∨ n < 0 ∨ 4096 < n
  · rw [if_pos h1, if_pos h1]; exact ⟨rfl, h⟩
  rw [if_neg h1, if_neg h1]
  by_cases h2 : s.o0 = 0
  · rw [if_pos h2, if_pos h2]; exact ⟨rfl, h⟩
  rw [if_neg h2, if_neg h2]
  by_cases h3 : s.blocked t = true
  · rw [if_pos h3, if_pos h3]; exact ⟨rfl, h⟩
  rw [if_neg h3, if_neg h3]
  by_cases h4 : n = 0
  · rw [if_pos h4, if_pos h4]; exact ⟨rfl, h⟩
  rw [if_neg h4, if_neg h4]
  by_cases h5 : s.readers.length = 0 ∧ 0 < s.buf.length
  · rw [if_pos h5, if_pos h5]
    have hok := okTake h.ok n
    have had : AD (s.rdTake n) := h.ad
    rw [progQ_eq hok had h.cond]
    exact ⟨rfl, prog_rest hok had _⟩
  rw [if_neg h5, if_neg h5]
  refine ⟨rfl, ?_⟩
  by_cases h6 : s.readers.length = 0 ∧ s.o1 = 0 ∧ s.writers.length = 0
  · rw [if_pos h6]; exact h
  rw [if_neg h6]
  by_cases h7 : w = false
  · rw [if_pos h7]; exact h
  rw [if_neg h7]
  by_cases h8 : 64 ≤ s.readers.length
  · rw [if_pos h8]; exact h
  rw [if_neg h8]
  refine ⟨⟨h.ok.cap, h.ok.atm, h.ok.o0, h.ok.o1, by simp only [List.length_append, List.length_cons, List.length_nil]; omega, h.ok.wl, fun r hr => ?_, h.ok.ws, h.ok.buf⟩, h.ad, ?_⟩
  · simp only [List.mem_append, List.mem_singleton] at hr
    rcases hr with hr | rfl
    · exact h.ok.rs r hr
    · simp only; omega
  · obtain ⟨k1, k2⟩ := stepI_none.1 h.no
    refine stepI_none.2 ⟨stepR_none.2 (.inr ?_), k2⟩
    rcases stepR_none.1 k1 with k1 | k1
    · have hr0 : s.readers.length = 0 := by rw [k1]; rfl
      exact ⟨by simp only; omega, fun hq => h6 ⟨hr0, hq⟩⟩
    · exact k1
theorem Rest.write {s : PP} (h : Rest s) (t : Int) (d : List Int) (w : Bool) : s.writeQ t d w = s.write t d w ∧ Rest (s.write t d w).s := by
  have hbl := h.ok.buf
  unfold PP.writeQ PP.write
  by_cases h1 : t < 0 ∨ 256 ≤ t
  · rw [if_pos h1, if_pos h1]; exact ⟨rfl, h⟩
  rw [if_neg h1, if_neg h1]
  by_cases h2 : 4096 < d.length
  · rw [if_pos h2, if_pos h2]; exact ⟨rfl, h⟩
  rw [if_neg h2, if_neg h2]
  by_cases h3 : s.o1 = 0
  · rw [if_pos h3, if_pos h3]; exact ⟨rfl, h⟩
  rw [if_neg h3, if_neg h3]
  by_cases h4 : s.blocked t = true
  · rw [if_pos h4, if_pos h4]; exact ⟨rfl, h⟩
  rw [if_neg h4, if_neg h4]
  by_cases h5 : s.o0 = 0
  · rw [if_pos h5, if_pos h5]; exact ⟨rfl, h⟩
  rw [if_neg h5, if_neg h5]
  by_cases h6 : d.length = 0
  · rw [if_pos h6, if_pos h6]; exact ⟨rfl, h⟩
  rw [if_neg h6, if_neg h6]
  have hcan : (s.can d = true ∧ s.nQ d = min d.length (s.cap - s.buf.length) ∧ s.nQ d ≠ 0 ∧ s.writers.length = 0 ∧ ((d.length : Int) ≤ s.atomic → s.nQ d = d.length)) ∨ (s.can d = false ∧ s.nQ d = 0 ∧ (s.writers = [] → s.fits d.length = false)) := by
    unfold PP.can PP.nQ fitN PP.fits
    by_cases hw : s.writers.length = 0
    · rw [if_pos hw, decide_eq_true hw, Bool.true_and]
      by_cases ha : (d.length : Int) ≤ s.atomic
      · rw [if_pos ha, decide_eq_true ha, if_pos rfl]
        by_cases hl : d.length ≤ s.cap - s.buf.length
        · rw [if_pos hl]
          exact .inl ⟨decide_eq_true hl, by omega, h6, hw, fun _ => rfl⟩
        · rw [if_neg hl]
          exact .inr ⟨decide_eq_false hl, rfl, fun _ => decide_eq_false hl⟩
      · rw [if_neg ha, decide_eq_false ha, if_neg (show ¬ (false = true) by simp)]
        by_cases hf : 0 < s.cap - s.buf.length
        · refine .inl ⟨decide_eq_true hf, ?_, ?_, hw, fun h => absurd h ha⟩ <;> split <;> omega
        · refine .inr ⟨decide_eq_false hf, ?_, fun _ => decide_eq_false hf⟩
          split <;> omega
    · rw [if_neg hw, decide_eq_false hw, Bool.false_and]
      exact .inr ⟨rfl, rfl, fun h => absurd (by rw [h]; rfl) hw⟩
  rcases hcan with ⟨c1, c2, c3, c4, c5⟩ | ⟨c1, c2, c3⟩
  · have hput : s.putQ d = s.put d := by unfold PP.putQ PP.put; rw [c2]
    have hop := okPut h.ok d
    have hw0 : s.writers = [] := List.eq_nil_of_length_eq_zero c4
    have e1 : ¬ (s.nQ d = 0 ∧ w = false) := fun hq => c3 hq.1
    have e2 : ¬ (s.can d = false ∧ w = false) := fun hq => by rw [c1] at hq; cases hq.1
    have e3 : ¬ (s.nQ d < d.length ∧ w = true ∧ 64 ≤ s.writers.length) := fun hq => by omega
    have e4 : ¬ ((s.can d = false ∨ w = true ∧ s.cap - s.buf.length < d.length) ∧ 64 ≤ s.writers.length) := fun hq => by omega
    have e5 : ¬ (s.can d = false) := by rw [c1]; simp
    rw [if_neg e1, if_neg e2, if_neg e3, if_neg e4, if_neg e5, hput, c2]
    by_cases hq : min d.length (s.cap - s.buf.length) < d.length ∧ w = true
    · have e6 : ¬ (min d.length (s.cap - s.buf.length) = d.length ∨ w = false) := fun h => by
        rcases h with h | h
        · omega
        · rw [hq.2] at h; cases h
      have e7 : ¬ (min d.length (s.cap - s.buf.length) = 0) := by omega
      rw [if_pos hq, if_neg e6, if_neg e7]
      have hok := okQueue (w := ⟨t, d, min d.length (s.cap - s.buf.length)⟩) hop (by show s.writers.length < 64; omega) ⟨by show min _ _ < d.length; exact hq.1, by show d.length ≤ 4096; omega⟩
      have had : AD ((s.put d).queue ⟨t, d, min d.length (s.cap - s.buf.length)⟩) := by
        intro x hx hl
        have hx : x ∈ s.writers ++ [⟨t, d, min d.length (s.cap - s.buf.length)⟩] := hx
        rw [hw0, List.nil_append, List.mem_singleton] at hx
        subst hx
        have := c5 hl
        omega
      rw [progQ_eq hok had (.inl (by show (s.writers ++ [_]).length ≤ 1; simp; omega))]
      exact ⟨rfl, prog_rest hok had _⟩
    · have e6 : min d.length (s.cap - s.buf.length) = d.length ∨ w = false := by
        by_cases hl : min d.length (s.cap - s.buf.length) = d.length
        · exact .inl hl
        · refine .inr ?_
          cases w
          · rfl
          · exact absurd ⟨by omega, rfl⟩ hq
      rw [if_neg hq, if_pos e6]
      have had : AD (s.put d) := h.ad
      rw [progQ_eq hop had (.inl (by show s.writers.length ≤ 1; omega))]
      exact ⟨rfl, prog_rest hop had _⟩
  · by_cases hw : w = false
    · have e1 : s.nQ d = 0 ∧ w = false := ⟨c2, hw⟩
      have e2 : s.can d = false ∧ w = false := ⟨c1, hw⟩
      rw [if_pos e1, if_pos e2]; exact ⟨rfl, h⟩
    have hw : w = true := by simpa using hw
    have e1 : ¬ (s.nQ d = 0 ∧ w = false) := fun hq => by rw [hw] at hq; cases hq.2
    have e2 : ¬ (s.can d = false ∧ w = false) := fun hq => by rw [hw] at hq; cases hq.2
    rw [if_neg e1, if_neg e2]
    by_cases hl : 64 ≤ s.writers.length
    · have e3 : s.nQ d < d.length ∧ w = true ∧ 64 ≤ s.writers.length := ⟨by omega, hw, hl⟩
      have e4 : (s.can d = false ∨ w = true ∧ s.cap - s.buf.length < d.length) ∧ 64 ≤ s.writers.length := ⟨.inl c1, hl⟩
      rw [if_pos e3, if_pos e4]; exact ⟨rfl, h⟩
    have e3 : ¬ (s.nQ d < d.length ∧ w = true ∧ 64 ≤ s.writers.length) := fun hq => hl hq.2.2
    have e4 : ¬ ((s.can d = false ∨ w = true ∧ s.cap - s.buf.length < d.length) ∧ 64 ≤ s.writers.length) := fun hq => hl hq.2
    have e5 : ¬ (s.nQ d = d.length ∨ w = false) := fun h => by
      rcases h with h | h
      · omega
      · rw [hw] at h; cases h
    rw [if_neg e3, if_neg e4, if_neg e5, if_pos c2, if_pos c1, c2]
    have hput : s.putQ d = s := by unfold PP.putQ; rw [c2]; simp
    rw [hput]
    refine ⟨rfl, okQueue h.ok (by omega) ⟨by show 0 < d.length; omega, by show d.length ≤ 4096; omega⟩, ?_, ?_⟩
    · intro x hx hl
      have hx : x ∈ s.writers ++ [⟨t, d, 0⟩] := hx
      rcases List.mem_append.1 hx with hx | hx
      · exact h.ad x hx hl
      · rw [List.mem_singleton] at hx
        subst hx
        rfl
    · obtain ⟨k1, k2⟩ := stepI_none.1 h.no
      refine stepI_none.2 ⟨stepR_none.2 ?_, fun x xs hx => ⟨h5, ?_⟩⟩
      · rcases stepR_none.1 k1 with k1 | k1
        · exact .inl k1
        · exact .inr ⟨k1.1, fun hq => by
            have := hq.2
            have : (s.writers ++ [(⟨t, d, 0⟩ : Wr)]).length = 0 := this
            simp at this⟩
      · have hx : s.writers ++ [⟨t, d, 0⟩] = x :: xs := hx
        rcases hws : s.writers with _ | ⟨y, ys⟩
        · rw [hws] at hx
          cases hx
          exact c3 hws
        · rw [hws] at hx
          cases hx
          exact (k2 _ _ hws).2
theorem Rest.cancel {s : PP} (h : Rest s) (t : Int) : s.cancelG progQ t = s.cancelG (prog · []) t ∧ Rest (s.cancelG (prog · []) t).s := by
  unfold PP.cancelG
  by_cases h1 : 0 ≤ s.rix t
  · rw [if_pos h1, if_pos h1]
    have hok := okNoR h.ok (s.rix t).toNat
    have had : AD (s.noR (s.rix t).toNat) := h.ad
    rw [progQ_eq hok had (by
      rcases h.io with h | h
      · exact .inr (by show s.readers.take _ ++ s.readers.drop _ = []; rw [h]; simp)
      · exact .inl (by show s.writers.length ≤ 1; rw [h]; simp))]
    exact ⟨rfl, prog_rest hok had _⟩
  rw [if_neg h1, if_neg h1]
  by_cases h2 : 0 ≤ s.wix t
  · rw [if_pos h2, if_pos h2]
    have hok := okNoW h.ok (s.wix t).toNat
    have had : AD (s.noW (s.wix t).toNat) := by
      intro x hx
      have hx : x ∈ s.writers.take _ ++ s.writers.drop _ := hx
      rcases List.mem_append.1 hx with hx | hx
      · exact h.ad x (List.mem_of_mem_take hx)
      · exact h.ad x (List.mem_of_mem_drop hx)
    rw [progQ_eq hok had (by
      rcases h.io with h | h
      · exact .inr (by show s.readers = []; exact h)
      · exact .inl (by show (s.writers.take _ ++ s.writers.drop _).length ≤ 1; rw [h]; simp))]
    exact ⟨rfl, prog_rest hok had _⟩
  rw [if_neg h2, if_neg h2]
  exact ⟨rfl, h⟩
end Go.E.Pi
/- What a law's arguments hold; the sound callee; a list of acts looked through. -/
namespace Go.E.Pi
open Go Go.E Go.ChangeShapes Go.WideShapes Go.ChangeAt Go.RowKit Go.Proofs.Ytgmmkajjigmjoaa Go.Proofs
set_option linter.unusedVariables false
set_option linter.unusedSimpArgs false
set_option maxRecDepth 100000
theorem mixed : Try.prog.follows .mixedOrders = true := by kernel_rfl
theorem awakeRun : ((callN (cProg Try.prog 0) 60 10 [] (startH objs)).map (·.1)) = some (.bool true) := by kernel_rfl
theorem C_ok (n : Nat) : CalleeOk Try.prog 0 (C n) := callX_sound mixed (knownAt_ok (n := 60) mixed (by decide) (by decide) fun f v h => by
  simp only [K, List.lookup] at h
  split at h
  · rename_i e
    cases h
    have : f = 10 := by simpa using e
    subst this
    exact ⟨rfl, awakeRun⟩
  · cases h) n
theorem globAll (H : AHeap) : Glob objs H := ⟨fun b hb => by simp [objs] at hb, Nat.zero_le _⟩

structure ActM where
  kind : Int
  thread : Int
  n : Int
  ad : Option Addr
  cd : Nat
  wait : Bool
  l : List Int
  r : List Nat
def ActM.cells (a : ActM) : List Value := [.int .u8 a.kind, .int .i64 a.thread, .int .i64 a.n, .slice a.ad a.l.length a.cd, .bool a.wait]
structure ActOk (H : AHeap) (a : ActM) : Prop where
  k0 : 0 ≤ a.kind ∧ a.kind ≤ 255
  d : RdS H 1 (.slice a.ad a.l.length a.cd) (u8s a.l) a.r
  lo : ∀ b ∈ a.r, b < H.next
/-- a list of acts in the base -/
structure Acts (B : AHeap) (a : Option Addr) (c : Nat) (xs : List ActM) : Prop where
  rd : ∃ cells r, RdS B 5 (.slice a xs.length c) cells r ∧ ∀ b ∈ r, b < B.next
  ok : ∀ x ∈ xs, ActOk B x
  at_ : ∀ (i : Nat) x, xs[i]? = some x → ∃ b o cs, a = some ⟨b, o, none⟩ ∧ B.get b = .cells cs 0 true ∧ b < B.next ∧ o + i * 5 + 5 ≤ cs.length ∧ (cs.drop (o + i * 5)).take 5 = x.cells

theorem u22 : Try.prog.underlying 22 = some (.slice 29) := by kernel_rfl
theorem u29 : (match Try.prog.underlying 29 with | some (.struct fs) => fs.toList.map fun f => (f.type, f.offset) | _ => []) = [(5,0),(3,1),(3,2),(27,3),(4,4)] := by kernel_rfl
theorem co29 : Try.prog.cellsOf 29 = 5 := by kernel_rfl
theorem u27 : Try.prog.underlying 27 = some (.slice 5) := by kernel_rfl
theorem u3 : Try.prog.underlying 3 = some (.int .i64) := by kernel_rfl
theorem u4 : Try.prog.underlying 4 = some .bool := by kernel_rfl
theorem u5 : Try.prog.underlying 5 = some (.int .u8) := by kernel_rfl
theorem co3 : Try.prog.cellsOf 3 = 1 := by kernel_rfl
theorem co4 : Try.prog.cellsOf 4 = 1 := by kernel_rfl
theorem co5 : Try.prog.cellsOf 5 = 1 := by kernel_rfl
theorem co27 : Try.prog.cellsOf 27 = 1 := by kernel_rfl
theorem ag22 : aggT Try.prog 22 = false := by kernel_rfl
theorem ag3 : aggT Try.prog 3 = false := by kernel_rfl
theorem act_of {gs : List AObj} {vs : List Value} (h : OkA Try.prog gs 3 29 vs) : ∃ x : ActM, ActOk (startH gs) x ∧ vs = x.cells := by
  unfold OkA at h
  have hu := u29
  split at h
  case h_5 fs hfs =>
    rw [hfs] at hu
    simp only at hu
    obtain ⟨hl, hf⟩ := h
    rw [co29] at hl
    have hm : ∀ t o, (t, o) ∈ [(5,0),(3,1),(3,2),(27,3),(4,4)] → OkA Try.prog gs 2 t ((vs.drop o).take (Try.prog.cellsOf t)) := by
      intro t o hto
      rw [← hu] at hto
      obtain ⟨f, h1, h2⟩ := List.mem_map.1 hto
      cases h2
      exact hf f h1
    have h5 := hm 5 0 (by simp)
    have h3 := hm 3 1 (by simp)
    have h3' := hm 3 2 (by simp)
    have h27 := hm 27 3 (by simp)
    have h4 := hm 4 4 (by simp)
    rw [co5] at h5
    rw [co3] at h3 h3'
    rw [co27] at h27
    rw [co4] at h4
    match vs, hl with
    | [a, b, c, d, e], _ =>
    simp only [List.drop_zero, List.take_succ_cons, List.take_zero, List.drop_succ_cons] at h5 h3 h3' h27 h4
    unfold OkA at h5 h3 h3' h4
    rw [u5] at h5
    rw [u3] at h3 h3'
    rw [u4] at h4
    obtain ⟨k, hk, hw⟩ := h5
    obtain ⟨n, hn, _⟩ := h3
    obtain ⟨m, hm', _⟩ := h3'
    obtain ⟨w, hw', hw2⟩ := h4
    cases hk; cases hn; cases hm'
    obtain ⟨v, l, r, hv, h1, h2, h3⟩ := h27.bytes (n := 0) u27 u5 co5
    cases hv
    obtain ⟨ad, cd, rfl⟩ := RdS.u1 h1
    refine ⟨⟨k, n, m, ad, cd, w, l, r⟩, ⟨?_, h1, by rw [next_startH]; exact h2⟩, rfl⟩
    simp [Lit.wf, IntKind.min, IntKind.max, IntKind.signed, IntKind.bits] at hw
    show 0 ≤ k ∧ k ≤ 255
    omega
  all_goals (rename_i h0; first | (rw [h0] at hu; cases hu) | skip)
  all_goals exact h.elim

theorem arg_acts {gs : List AObj} {a : Value} (h : ∃ cells, a = argV Try.prog 22 cells ∧ OkA Try.prog gs 4 22 cells) :
    ∃ (ad : Option Addr) (xs : List ActM) (c : Nat), a = .slice ad xs.length c ∧ xs.length ≤ c ∧ Acts (startH gs) ad c xs := by
  obtain ⟨cells, rfl, h⟩ := h
  unfold OkA at h
  rw [u22] at h
  rcases h with rfl | ⟨b, c, rfl, _⟩ | ⟨b, l, c, cells, rfl, hlc, hg, hl, hc⟩
  · exact ⟨none, [], 0, by unfold argV; rw [ag22]; rfl, by simp, ⟨⟨[], [], .nil, by simp⟩, by simp, by simp⟩⟩
  · exact ⟨some ⟨b, 0, none⟩, [], 0, by unfold argV; rw [ag22]; rfl, by simp, ⟨⟨[], [], .empty _, by simp⟩, by simp, by simp⟩⟩
  · rw [co29] at hl hc
    obtain ⟨xs, h1, h2⟩ := list_of (Q := fun i (x : ActM) => ActOk (startH gs) x ∧ (cells.drop (i * 5)).take 5 = x.cells) l fun i hi => act_of (hc i hi)
    have hb := (List.getElem?_eq_some_iff.1 hg).1
    refine ⟨some ⟨b, 0, none⟩, xs, c, by unfold argV; rw [ag22, h1]; rfl, by omega, ⟨⟨_, [b], RdS.blk (es := 5) (off := 0) (l := xs.length) (c := c) (cs := cells) (e := 0) (ro := true) (by rw [get_startH, List.getD_eq_getElem?_getD, hg]; rfl) (by omega) (.inl rfl) (by omega), by simp; rw [next_startH]; exact hb⟩, fun x hx => ?_, fun i x hx => ?_⟩⟩
    · obtain ⟨i, hi⟩ := List.getElem?_of_mem hx
      exact (h2 i x hi).1
    · have hi := (List.getElem?_eq_some_iff.1 hx).1
      exact ⟨b, 0, cells, rfl, by rw [get_startH, List.getD_eq_getElem?_getD, hg]; rfl, by rw [next_startH]; exact hb, by omega, by rw [Nat.zero_add]; exact (h2 i x hx).2⟩
theorem arg_int {gs : List AObj} {n : Nat} {a : Value} (h : ∃ cells, a = argV Try.prog 3 cells ∧ OkA Try.prog gs (n + 1) 3 cells) : ∃ x, a = .int .i64 x ∧ (Lit.int .i64 x).wf = true := by
  obtain ⟨cells, rfl, h⟩ := h
  unfold OkA at h
  rw [u3] at h
  obtain ⟨b, rfl, hw⟩ := h
  exact ⟨b, by unfold argV; rw [ag3]; rfl, hw⟩
/-! ### few -/
theorem L36 {B H : AHeap} {As : List Asn} (hS : S B H As) (x : ActM) : wpF C 36 [.agg ⟨x.cells⟩] H fun v H' => v = .bool (decide (5000 < x.l.length)) ∧ S B H' As := by
  refine wpF_ofW o36 rfl rfl ?_
  unfold ActM.cells
  refine zsr ?_; refine wpO_cons ?_; refine op1_boxNS rfl rfl rfl hS ?_; intro p1 H1 hS; refine zw1 ?_; refine zns ?_; refine zsr ?_; refine wpO_cons ?_; refine op1_faddr0 rfl rfl ?_; refine wpO_cons ?_; refine op1_load rfl rfl (by exact S.g0 hS) rfl ?_; refine wpO_cons ?_; refine op1_len rfl rfl ?_; refine wpO_cons ?_; refine op1_gtr rfl rfl rfl ?_; refine zw1 ?_; refine zns ?_; refine wp_ret ?_; refine ret_of ?_; refine rk_tmp (by (conv => lhs; whnf) <;> rfl) ?_; refine rk_nil ?_
  exact ⟨by simp only [resultV]; congr 1; rw [decide_eq_decide]; omega, S.drop hS⟩

theorem L64 {B H : AHeap} {As : List Asn} (hS : S B H As) {a : Option Addr} {c : Nat} {xs : List ActM} (hA : Acts B a c xs) (hl : xs.length ≤ 100) :
    wpF C 64 [.slice a xs.length c, .func (.func 36) #[] #[]] H fun v H' => (∃ k, v = .int .i64 k ∧ (0 ≤ k ↔ ∃ x ∈ xs, 5000 < x.l.length)) ∧ S B H' As := by
  refine wpF_ofW o64 rfl rfl ?_
  refine zsr ?_; refine zw1 ?_; refine zns ?_; refine wp_seq ?_; refine zsr ?_; refine zw1 ?_; refine wpO_cons ?_; refine op1_len rfl rfl ?_; refine zw1 ?_; refine zns ?_; refine wp_block ?_
  refine wp_loop [8] (fun k vs H' => ∃ i : Nat, vs = [.int .i64 i] ∧ i + k = xs.length ∧ S B H' As ∧ ∀ x ∈ xs.take i, ¬ 5000 < x.l.length) ⟨xs.length, 0, rfl, by omega, hS, by simp⟩ ?_
  clear hS
  rintro k vs T' H1 ⟨i, rfl, hk, hS, hno⟩
  refine zsr ?_; refine wpO_cons ?_; refine op1_lss rfl rfl rfl ?_; refine zns ?_; refine wp_seq ?_
  refine wp_dec rfl (fun hc => ?_) (fun hc => ?_)
  · obtain ⟨x, hx⟩ : ∃ x, xs[i]? = some x := ⟨xs[i]'(by omega), by simp⟩
    obtain ⟨b, o, cs, rfl, hg, hb, hle, hat⟩ := hA.at_ i x hx
    have hg1 := (hS.base b hb).trans hg
    refine wp_skip ?_; refine seq_normal ?_; refine wp_seq ?_; refine wp_block ?_; refine zsr ?_; refine zw1 ?_; refine zw1 ?_; refine zns ?_; refine zsr ?_; refine zw1 ?_; refine zw1 ?_; refine zw1 ?_; refine wpO_cons ?_; refine op1_iaddr rfl rfl rfl (by omega) (by omega) ?_; refine wpO_cons ?_
    refine op1_loadN rfl rfl hg1 hle hat ?_
    refine wpO_cons ?_; refine op1_dyn1 rfl rfl (by (conv => lhs; whnf) <;> rfl) ?_
    refine wpF_mono (L36 hS x) ?_
    rintro _ H2 ⟨rfl, hS⟩
    refine zns ?_
    refine wp_dec rfl (fun h5 => ?_) (fun h5 => ?_)
    · refine zsr ?_; refine zw1 ?_; refine zw1 ?_; refine zns ?_; refine wp_ret ?_; refine block_ret ?_; refine seq_ret ?_; refine iter_ret ?_; refine block_ret ?_; refine seq_ret ?_; refine ret_of ?_; refine rk_tmp (by (conv => lhs; whnf) <;> rfl) ?_; refine rk_nil ?_
      exact ⟨⟨_, rfl, ⟨fun _ => ⟨x, List.mem_of_getElem? hx, h5⟩, fun _ => by omega⟩⟩, hS⟩
    · refine wp_skip ?_; refine block_normal ?_; refine seq_normal ?_; refine wp_region ?_; refine wpO_cons ?_; refine op1_add rfl rfl rfl (by exact wrap_i64 (by omega) (by omega)) ?_; refine zw1 ?_; refine wpO_nil ?_
      refine ⟨k - 1, by omega, i + 1, rfl, by omega, hS, fun y hy => ?_⟩
      rw [List.take_add_one, hx] at hy
      simp only [Option.toList_some, List.mem_append, List.mem_singleton] at hy
      rcases hy with hy | rfl
      · exact hno y hy
      · exact h5
  · obtain rfl : i = xs.length := by omega
    rw [List.take_length] at hno
    refine wp_exit ?_; refine seq_exit ?_; refine iter_exit ?_; refine block_exit ?_; refine seq_normal ?_; refine zsr ?_; refine zw1 ?_; refine zns ?_; refine wp_ret ?_; refine ret_of ?_; refine rk_tmp (by (conv => lhs; whnf) <;> rfl) ?_; refine rk_nil ?_
    exact ⟨⟨_, rfl, ⟨fun h => by omega, fun ⟨x, hx, h⟩ => absurd h (hno x hx)⟩⟩, hS⟩

theorem L35 {B H : AHeap} {As : List Asn} (hS : S B H As) {a : Option Addr} {c : Nat} {xs : List ActM} (hA : Acts B a c xs) (hl : xs.length ≤ 100) :
    wpF C 35 [.slice a xs.length c, .func (.func 36) #[] #[]] H fun v H' => v = .bool (decide (∃ x ∈ xs, 5000 < x.l.length)) ∧ S B H' As := by
  refine wpF_ofW o35 rfl rfl ?_
  refine zsr ?_; refine zw1 ?_; refine zns ?_; refine zsr ?_; refine zw1 ?_; refine zw1 ?_; refine wpO_cons ?_; refine op1_call2 rfl (by (conv => lhs; whnf) <;> rfl) (by (conv => lhs; whnf) <;> rfl) ?_
  refine wpF_mono (L64 hS hA hl) ?_
  rintro _ H1 ⟨⟨k, rfl, hk⟩, hS⟩
  refine wpO_cons ?_; refine op1_geq rfl rfl rfl ?_; refine zw1 ?_; refine zns ?_; refine wp_ret ?_; refine ret_of ?_; refine rk_tmp (by (conv => lhs; whnf) <;> rfl) ?_; refine rk_nil ?_
  exact ⟨by simp only [resultV]; congr 1; rw [decide_eq_decide]; exact hk, hS⟩

def Few (xs : List ActM) : Prop := xs.length ≤ 50 ∧ ∀ x ∈ xs, x.l.length ≤ 5000
theorem L9 {B H : AHeap} {As : List Asn} (hS : S B H As) {a : Option Addr} {c : Nat} {xs : List ActM} (hA : Acts B a c xs) :
    wpF C 9 [.slice a xs.length c] H fun v H' => (∃ b, v = .bool b ∧ (b = true ↔ Few xs)) ∧ S B H' As := by
  refine wpF_ofW o9 rfl rfl ?_
  refine zsr ?_; refine zw1 ?_; refine zns ?_; refine zsr ?_; refine zw1 ?_; refine wpO_cons ?_; refine op1_len rfl rfl ?_; refine wpO_cons ?_; refine op1_leq rfl rfl rfl ?_; refine zw1 ?_; refine wpO_cons ?_
  refine op1_dec rfl (fun hc => ?_) (fun hc => ?_)
  · refine op1_mov rfl (by (conv => lhs; whnf) <;> rfl) ?_; refine wpO_cons ?_; refine op1_call2 rfl (by (conv => lhs; whnf) <;> rfl) (by (conv => lhs; whnf) <;> rfl) ?_
    refine wpF_mono (L35 hS hA (by omega)) ?_
    rintro _ H1 ⟨rfl, hS⟩
    refine wpO_cons ?_; refine op1_not rfl rfl ?_; refine wpO_cons ?_; refine op1_pick_t rfl rfl (by (conv => lhs; whnf) <;> rfl) ?_; refine zw1 ?_; refine zns ?_; refine wp_ret ?_; refine ret_of ?_; refine rk_tmp (by (conv => lhs; whnf) <;> rfl) ?_; refine rk_nil ?_
    refine ⟨⟨_, rfl, ?_⟩, hS⟩
    simp only [Few, Bool.not_eq_true', decide_eq_false_iff_not]
    constructor
    · exact fun h => ⟨by omega, fun x hx => Nat.le_of_not_lt fun h2 => h ⟨x, hx, h2⟩⟩
    · exact fun ⟨_, h⟩ ⟨x, hx, h2⟩ => by have := h x hx; omega
  · refine op1_skip rfl ?_; refine wpO_cons ?_; refine op1_skip rfl ?_; refine wpO_cons ?_; refine op1_skip rfl ?_; refine wpO_cons ?_; refine op1_pick_f rfl rfl (by (conv => lhs; whnf) <;> rfl) ?_; refine zw1 ?_; refine zns ?_; refine wp_ret ?_; refine ret_of ?_; refine rk_tmp (by (conv => lhs; whnf) <;> rfl) ?_; refine rk_nil ?_
    exact ⟨⟨_, rfl, by simp only [Few]; constructor; (intro h; cases h); (intro h; omega)⟩, hS⟩

/-- bytes.Equal -/
theorem L14 {H : AHeap} {v w : Value} {l l2 : List Int} {r1 r2 : List Nat} (h1 : RdS H 1 v (u8s l) r1) (h2 : RdS H 1 w (u8s l2) r2) : wpF C 14 [v, w] H fun u H' => (∃ b, u = .bool b ∧ (l = l2 → b = true)) ∧ H = H' := by
  refine wpF_ofW o14 rfl rfl ?_
  refine zsr ?_; refine zw1 ?_; refine zns ?_; refine zsr ?_; refine zw1 ?_; refine wpO_cons ?_
  refine op1_b2s rfl (by (conv => lhs; whnf) <;> rfl) (h1.b2sU) ?_
  refine zw1 ?_; refine wpO_cons ?_
  refine op1_b2s rfl (by (conv => lhs; whnf) <;> rfl) (h2.b2sU) ?_
  refine wpO_cons ?_; refine op1_eqlS rfl rfl rfl ?_; refine zw1 ?_; refine zns ?_; refine wp_ret ?_; refine ret_of ?_; refine rk_tmp (by (conv => lhs; whnf) <;> rfl) ?_; refine rk_nil ?_
  exact ⟨⟨_, rfl, fun e => by subst e; simp⟩, rfl⟩

/-! ### New -/
def PP.new (c : Nat) (a : Int) : PP := ⟨c, a, [], 0, 0, [], []⟩
theorem okNew {c : Nat} {a : Int} (hc : 1 ≤ c ∧ c ≤ 4096) (ha : 1 ≤ a ∧ a ≤ c) : Ok (PP.new c a) := ⟨hc, ha, by simp [PP.new], by simp [PP.new], by simp [PP.new], by simp [PP.new], by simp [PP.new], by simp [PP.new], by simp [PP.new]⟩
theorem L25 {B H : AHeap} {As : List Asn} (hS : S B H As) {c : Nat} {a : Int} (hc : 1 ≤ c ∧ c ≤ 4096) (ha : 1 ≤ a ∧ a ≤ c) :
    wpF C 25 [.int .i64 c, .int .i64 a] H fun v H' => ∃ p, v = .tuple ⟨[.pointer (some ⟨p, 0, none⟩), .int .i64 0]⟩ ∧ S B H' (repP p (PP.new c a) :: As) := by
  refine wpF_ofW o25 rfl rfl ?_
  refine zsr ?_; refine zw1 ?_; refine zw1 ?_; refine zns ?_; refine wp_seq ?_; refine zsr ?_; refine zw1 ?_; refine wpO_cons ?_; refine op1_lss rfl rfl rfl ?_; refine zw1 ?_; refine wpO_cons ?_
  refine op1_dec rfl (fun h1 => ?_) (fun h1 => ?_)
  · omega
  refine op1_mov rfl (by (conv => lhs; whnf) <;> rfl) ?_; refine wpO_cons ?_; refine op1_gtr rfl rfl rfl ?_; refine wpO_cons ?_; refine op1_pick_f rfl rfl (by (conv => lhs; whnf) <;> rfl) ?_; refine zw1 ?_; refine wpO_cons ?_
  refine op1_dec rfl (fun h2 => ?_) (fun h2 => ?_)
  · omega
  refine op1_mov rfl (by (conv => lhs; whnf) <;> rfl) ?_; refine wpO_cons ?_; refine op1_lss rfl rfl rfl ?_; refine wpO_cons ?_; refine op1_pick_f rfl rfl (by (conv => lhs; whnf) <;> rfl) ?_; refine zw1 ?_; refine wpO_cons ?_
  refine op1_dec rfl (fun h3 => ?_) (fun h3 => ?_)
  · omega
  refine op1_mov rfl (by (conv => lhs; whnf) <;> rfl) ?_; refine zw1 ?_; refine wpO_cons ?_; refine op1_gtr rfl rfl rfl ?_; refine wpO_cons ?_; refine op1_pick_f rfl rfl (by (conv => lhs; whnf) <;> rfl) ?_; refine zns ?_
  refine wp_dec rfl (fun h4 => ?_) (fun h4 => ?_)
  · omega
  refine wp_skip ?_; refine seq_normal ?_; refine zsr ?_; refine zw1 ?_; refine wpO_cons ?_
  refine op1_mksliceS rfl rfl rfl (by omega) (Int.le_refl _) (by omega) hS ?_
  rw [Int.toNat_natCast, u8s_zero]
  intro p1 H1 hS; refine wpO_cons ?_; refine op1_build rfl ?_; refine bk_one (by (conv => lhs; whnf) <;> rfl) rfl rfl rfl ?_; refine bk_nil ?_; refine zw1 ?_; refine wpO_cons ?_; refine op1_build rfl ?_; refine bk_agg rfl rfl rfl rfl ?_; refine bk_one (by (conv => lhs; whnf) <;> rfl) rfl rfl rfl ?_; refine bk_nil ?_; refine wpO_cons ?_; refine op1_boxNS rfl rfl rfl hS ?_; intro p2 H2 hS; refine zw1 ?_; refine zw1 ?_; refine zns ?_; refine wp_ret ?_; refine ret_of ?_; refine rk_tmp (by (conv => lhs; whnf) <;> rfl) ?_; refine rk_tmp (by (conv => lhs; whnf) <;> rfl) ?_; refine rk_nil ?_
  exact ⟨_, rfl, closeP (s := PP.new c a) (r := List.replicate c 0) (f := 0) ⟨by simp [PP.new], by show 0 < c; omega, by simp [PP.new, rot], by simp [PP.new]⟩ (S.dn3 (S.dn3 (S.slNil (S.arrNil hS))))⟩
theorem L25e {B H : AHeap} {As : List Asn} (hS : S B H As) {c a : Int} (h : ¬ (1 ≤ c ∧ c ≤ 4096 ∧ 1 ≤ a ∧ a ≤ c)) :
    wpF C 25 [.int .i64 c, .int .i64 a] H fun v H' => v = .tuple ⟨[.pointer none, .int .i64 34]⟩ ∧ S B H' As := by
  refine wpF_ofW o25 rfl rfl ?_
  refine zsr ?_; refine zw1 ?_; refine zw1 ?_; refine zns ?_; refine wp_seq ?_; refine zsr ?_; refine zw1 ?_; refine wpO_cons ?_; refine op1_lss rfl rfl rfl ?_; refine zw1 ?_; refine wpO_cons ?_; refine op1_split rfl (fun hc0 => ?_) (fun hc0 => ?_); (focus (refine op1_skip rfl ?_; refine wpO_cons ?_; refine op1_skip rfl ?_; refine wpO_cons ?_; refine op1_pick_t rfl rfl (by (conv => lhs; whnf) <;> rfl) ?_; refine zw1 ?_; refine wpO_cons ?_; refine op1_skip rfl ?_; refine wpO_cons ?_; refine op1_skip rfl ?_; refine wpO_cons ?_; refine op1_pick_t rfl rfl (by (conv => lhs; whnf) <;> rfl) ?_; refine zw1 ?_; refine wpO_cons ?_; refine op1_skip rfl ?_; refine wpO_cons ?_; refine op1_skip rfl ?_; refine wpO_cons ?_; refine op1_skip rfl ?_; refine wpO_cons ?_; refine op1_pick_t rfl rfl (by (conv => lhs; whnf) <;> rfl) ?_; refine zns ?_; refine wp_true rfl ?_; refine zsr ?_; refine zw1 ?_; refine zw1 ?_; refine zns ?_; refine wp_ret ?_; refine seq_ret ?_; refine ret_of ?_; refine rk_tmp (by (conv => lhs; whnf) <;> rfl) ?_; refine rk_tmp (by (conv => lhs; whnf) <;> rfl) ?_; refine rk_nil ?_; (first | exact ⟨rfl, hS⟩ | (exfalso; omega) | (exfalso; simp_all; done) | (exfalso; simp_all; omega)))); (focus (refine op1_mov rfl (by (conv => lhs; whnf) <;> rfl) ?_; refine wpO_cons ?_; refine op1_gtr rfl rfl rfl ?_; refine wpO_cons ?_; refine op1_pick_f rfl rfl (by (conv => lhs; whnf) <;> rfl) ?_; refine zw1 ?_; refine wpO_cons ?_; refine op1_split rfl (fun hc1 => ?_) (fun hc1 => ?_); (focus (refine op1_skip rfl ?_; refine wpO_cons ?_; refine op1_skip rfl ?_; refine wpO_cons ?_; refine op1_pick_t rfl rfl (by (conv => lhs; whnf) <;> rfl) ?_; refine zw1 ?_; refine wpO_cons ?_; refine op1_skip rfl ?_; refine wpO_cons ?_; refine op1_skip rfl ?_; refine wpO_cons ?_; refine op1_skip rfl ?_; refine wpO_cons ?_; refine op1_pick_t rfl rfl (by (conv => lhs; whnf) <;> rfl) ?_; refine zns ?_; refine wp_true rfl ?_; refine zsr ?_; refine zw1 ?_; refine zw1 ?_; refine zns ?_; refine wp_ret ?_; refine seq_ret ?_; refine ret_of ?_; refine rk_tmp (by (conv => lhs; whnf) <;> rfl) ?_; refine rk_tmp (by (conv => lhs; whnf) <;> rfl) ?_; refine rk_nil ?_; (first | exact ⟨rfl, hS⟩ | (exfalso; omega) | (exfalso; simp_all; done) | (exfalso; simp_all; omega)))); (focus (refine op1_mov rfl (by (conv => lhs; whnf) <;> rfl) ?_; refine wpO_cons ?_; refine op1_lss rfl rfl rfl ?_; refine wpO_cons ?_; refine op1_pick_f rfl rfl (by (conv => lhs; whnf) <;> rfl) ?_; refine zw1 ?_; refine wpO_cons ?_; refine op1_split rfl (fun hc2 => ?_) (fun hc2 => ?_); (focus (refine op1_skip rfl ?_; refine wpO_cons ?_; refine op1_skip rfl ?_; refine wpO_cons ?_; refine op1_skip rfl ?_; refine wpO_cons ?_; refine op1_pick_t rfl rfl (by (conv => lhs; whnf) <;> rfl) ?_; refine zns ?_; refine wp_true rfl ?_; refine zsr ?_; refine zw1 ?_; refine zw1 ?_; refine zns ?_; refine wp_ret ?_; refine seq_ret ?_; refine ret_of ?_; refine rk_tmp (by (conv => lhs; whnf) <;> rfl) ?_; refine rk_tmp (by (conv => lhs; whnf) <;> rfl) ?_; refine rk_nil ?_; (first | exact ⟨rfl, hS⟩ | (exfalso; omega) | (exfalso; simp_all; done) | (exfalso; simp_all; omega)))); (focus (refine op1_mov rfl (by (conv => lhs; whnf) <;> rfl) ?_; refine zw1 ?_; refine wpO_cons ?_; refine op1_gtr rfl rfl rfl ?_; refine wpO_cons ?_; refine op1_pick_f rfl rfl (by (conv => lhs; whnf) <;> rfl) ?_; refine zns ?_; refine wp_cond rfl (fun hc3 => ?_) (fun hc3 => ?_); (focus (refine zsr ?_; refine zw1 ?_; refine zw1 ?_; refine zns ?_; refine wp_ret ?_; refine seq_ret ?_; refine ret_of ?_; refine rk_tmp (by (conv => lhs; whnf) <;> rfl) ?_; refine rk_tmp (by (conv => lhs; whnf) <;> rfl) ?_; refine rk_nil ?_; (first | exact ⟨rfl, hS⟩ | (exfalso; omega) | (exfalso; simp_all; done) | (exfalso; simp_all; omega)))); (focus (refine wp_skip ?_; refine seq_normal ?_; refine zsr ?_; refine zw1 ?_; refine wpO_cons ?_; (first | exact ⟨rfl, hS⟩ | (exfalso; omega) | (exfalso; simp_all; done) | (exfalso; simp_all; omega))))))))))
end Go.E.Pi
/- The law's helpers: ends, do. -/
namespace Go.E.Pi
open Go Go.E Go.Proofs.Ytgmmkajjigmjoaa Go.Proofs
set_option linter.unusedVariables false
set_option linter.unusedSimpArgs false
set_option maxRecDepth 100000
def endC (e : EndM) (vd : Value) : List Value := [.int .i64 e.thread, vd, .int .i64 e.count, .int .i64 e.err]
theorem endA_at {H : AHeap} {e : EndM} {cs : List Value} {o : List Nat} (h : (endA e cs).f H o) : ∃ a c, cs = endC e (.slice a e.data.length c) ∧ SlO H 1 (.slice a e.data.length c) (u8s e.data) o := by
  obtain ⟨vd, h⟩ := h
  cases h with
  | cons h1 h2 => cases h2 with
    | cons h3 h4 =>
      cases h4
      obtain ⟨rfl, h3⟩ := h3
      have h5 : SlO H 1 vd (u8s e.data) _ := h1
      obtain ⟨a, c, rfl⟩ := h5.shape1
      rw [u8s_length] at h3 h5
      exact ⟨a, c, h3, by simpa using h5⟩
theorem endA_rd {B : AHeap} {As : List Asn} {es : List EndM} {css : List (List Value)} {i : Nat} {e : EndM} {vd : Value} (hx : es[i]? = some e) (hc : css[i]? = some (endC e vd)) : RD B (many endA es css :: As) 1 vd (u8s e.data) := fun H h => by
  obtain ⟨cs, o, h1, h2, h3⟩ := S.many_at h hx
  rw [hc] at h1
  cases h1
  obtain ⟨a, c, h4, h5⟩ := endA_at h2
  unfold endC at h4
  injection h4 with _ h4
  injection h4 with h4 _
  subst h4
  exact ⟨o, h5.rd, h3⟩

theorem L61 {B H : AHeap} {As : List Asn} {e : EndM} {v1 v2 : Value} (hS : S B H As) (h1 : RD B As 1 v1 (u8s e.data)) (h2 : RD B As 1 v2 (u8s e.data)) :
    wpF C 61 [.agg ⟨endC e v1⟩, .agg ⟨endC e v2⟩] H fun v H' => v = .bool true ∧ S B H' As := by
  obtain ⟨a1, c1, rfl⟩ := h1.u1 hS
  obtain ⟨a2, c2, rfl⟩ := h2.u1 hS
  refine wpF_ofW o61 rfl rfl ?_
  unfold endC
  refine zsr ?_; refine wpO_cons ?_; refine op1_boxNS rfl rfl rfl hS ?_; intro p1 H1 hS; refine wpO_cons ?_; refine op1_boxNS rfl rfl rfl hS ?_; intro p2 H2 hS; refine zw1 ?_; refine zns ?_; refine zsr ?_; refine wpO_cons ?_; refine op1_faddr0 rfl rfl ?_; refine wpO_cons ?_; refine op1_load rfl rfl (by exact S.g1 hS) rfl ?_; refine wpO_cons ?_; refine op1_faddr0 rfl rfl ?_; refine wpO_cons ?_; refine op1_load rfl rfl (by exact S.g0 hS) rfl ?_; refine wpO_cons ?_; refine op1_eqlI_s rfl rfl rfl ?_; refine zw1 ?_; refine wpO_cons ?_; refine op1_faddr0 rfl rfl ?_; refine wpO_cons ?_; refine op1_load rfl rfl (by exact S.g1 hS) rfl ?_; refine wpO_cons ?_; refine op1_faddr0 rfl rfl ?_; refine wpO_cons ?_; refine op1_load rfl rfl (by exact S.g0 hS) rfl ?_; refine wpO_cons ?_; refine op1_eqlI_s rfl rfl rfl ?_; refine wpO_cons ?_; refine op1_pick_t rfl rfl (by (conv => lhs; whnf) <;> rfl) ?_; refine zw1 ?_; refine wpO_cons ?_; refine op1_faddr0 rfl rfl ?_; refine wpO_cons ?_; refine op1_load rfl rfl (by exact S.g1 hS) rfl ?_; refine wpO_cons ?_; refine op1_faddr0 rfl rfl ?_; refine wpO_cons ?_; refine op1_load rfl rfl (by exact S.g0 hS) rfl ?_; refine wpO_cons ?_; refine op1_eqlI_s rfl rfl rfl ?_; refine wpO_cons ?_; refine op1_pick_t rfl rfl (by (conv => lhs; whnf) <;> rfl) ?_; refine zw1 ?_; refine wpO_cons ?_; refine op1_faddr0 rfl rfl ?_; refine wpO_cons ?_; refine op1_load rfl rfl (by exact S.g1 hS) rfl ?_; refine wpO_cons ?_; refine op1_faddr0 rfl rfl ?_; refine wpO_cons ?_; refine op1_load rfl rfl (by exact S.g0 hS) rfl ?_; refine wpO_cons ?_; refine op1_call2 rfl (by (conv => lhs; whnf) <;> rfl) (by (conv => lhs; whnf) <;> rfl) ?_
  obtain ⟨_, hr1, _⟩ := h1 _ (S.drop (S.drop hS))
  obtain ⟨_, hr2, _⟩ := h2 _ (S.drop (S.drop hS))
  refine wpF_mono (L14 hr1 hr2) ?_
  rintro _ _ ⟨⟨b, rfl, hb⟩, rfl⟩
  obtain rfl := hb rfl
  refine wpO_cons ?_; refine op1_pick_t rfl rfl (by (conv => lhs; whnf) <;> rfl) ?_; refine zw1 ?_; refine zns ?_; refine wp_ret ?_; refine ret_of ?_; refine rk_tmp (by (conv => lhs; whnf) <;> rfl) ?_; refine rk_nil ?_
  exact ⟨rfl, S.drop (S.drop hS)⟩

theorem L70 {B H : AHeap} {As : List Asn} {es : List EndM} {va vb : Value} (hS : S B H (arr 4 endA va es :: arr 4 endA vb es :: As)) (hl : es.length ≤ 1000000) :
    wpF C 70 [va, vb, .func (.func 61) #[] #[]] H fun v H' => v = .bool true ∧ S B H' As := by
  obtain ⟨aa, ca, rfl, hca⟩ := S.arrShape hS (by omega)
  obtain ⟨ab, cb, rfl, hcb⟩ := S.arrShape (S.up1 hS) (by omega)
  obtain ⟨cssa, hcssa, hcla, hS⟩ := S.unarr hS
  obtain ⟨cssb, hcssb, hclb, hS⟩ := S.unarr (S.up2 hS)
  refine wpF_ofW o70 rfl rfl ?_
  refine zsr ?_; refine zw1 ?_; refine zns ?_; refine wp_seq ?_; refine zsr ?_; refine zw1 ?_; refine wpO_cons ?_; refine op1_len rfl rfl ?_; refine zw1 ?_; refine wpO_cons ?_; refine op1_len rfl rfl ?_; refine wpO_cons ?_; refine op1_neqI_s rfl rfl rfl ?_; refine zns ?_; refine wp_false rfl ?_; refine wp_skip ?_; refine seq_normal ?_; refine wp_seq ?_; refine zsr ?_; refine zw1 ?_; refine wpO_cons ?_; refine op1_len rfl rfl ?_; refine zw1 ?_; refine zns ?_; refine wp_block ?_
  refine wp_loop [17] (fun k vs H' => ∃ i : Nat, vs = [.int .i64 i] ∧ i + k = es.length ∧ S B H' (sl 4 (.slice ab es.length cb) cssb.flatten :: many endA es cssb :: sl 4 (.slice aa es.length ca) cssa.flatten :: many endA es cssa :: As)) ⟨es.length, 0, rfl, by omega, hS⟩ ?_
  clear hS
  rintro k vs T' H1 ⟨i, rfl, hk, hS⟩
  refine zsr ?_; refine wpO_cons ?_; refine op1_lss rfl rfl rfl ?_; refine zns ?_; refine wp_seq ?_
  refine wp_dec rfl (fun hc => ?_) (fun hc => ?_)
  · have hi : i < es.length := by omega
    obtain ⟨x, hx⟩ : ∃ x, es[i]? = some x := ⟨es[i], by simp [hi]⟩
    obtain ⟨csb, ob, hcsb, hwb, _⟩ := S.many_at (S.up1 hS) hx
    obtain ⟨csa, oa, hcsa, hwa, _⟩ := S.many_at (S.up3 hS) hx
    obtain ⟨avb, cvb, rfl, _⟩ := endA_at hwb
    obtain ⟨ava, cva, rfl, _⟩ := endA_at hwa
    obtain ⟨bb, offb, dsb, rfl, _, _, _, _⟩ := (S.up0 hS).elt hi
    obtain ⟨ba, offa, dsa, rfl, _, _, _, _⟩ := (S.up2 hS).elt hi
    refine wp_skip ?_; refine seq_normal ?_; refine wp_seq ?_; refine wp_block ?_; refine zsr ?_; refine zw1 ?_; refine wpO_cons ?_; refine op1_iaddr rfl rfl rfl (by omega) (by omega) ?_; refine wpO_cons ?_; refine op1_loadNL rfl rfl (S.up2 hS) rfl rfl (by omega) rfl ?_; refine wpO_cons ?_; refine op1_allocS rfl hS ?_; intro p1 H2 hS; refine zw1 ?_; refine wpO_cons ?_
    rw [show (List.take 4 (List.drop ((i : Int).toNat * 4) cssa.flatten)) = _ from flatten_cut hcssa hcsa]
    unfold endC
    (refine op1_storeNS rfl rfl (by (conv => lhs; whnf) <;> rfl) rfl rfl (S.up0 hS) (Nat.le_of_ble_eq_true rfl) ?_; intro H3 hS; replace hS := S.dn0 hS); refine zns ?_; refine zsr ?_; refine zw1 ?_; refine zw1 ?_; refine wpO_cons ?_; refine op1_iaddr rfl rfl rfl (by omega) (by omega) ?_; refine wpO_cons ?_; refine op1_loadNL rfl rfl (S.up1 hS) rfl rfl (by omega) rfl ?_; refine wpO_cons ?_; refine op1_allocS rfl hS ?_; intro p2 H4 hS; refine wpO_cons ?_
    rw [show (List.take 4 (List.drop ((i : Int).toNat * 4) cssb.flatten)) = _ from flatten_cut hcssb hcsb]
    unfold endC
    (refine op1_storeNS rfl rfl (by (conv => lhs; whnf) <;> rfl) rfl rfl (S.up0 hS) (Nat.le_of_ble_eq_true rfl) ?_; intro H5 hS; replace hS := S.dn0 hS); refine zns ?_; refine zsr ?_; refine zw1 ?_; refine wpO_cons ?_; refine op1_load_4 rfl rfl (by exact S.g1 hS) rfl rfl ?_; refine wpO_cons ?_; refine op1_load_4 rfl rfl (by exact S.g0 hS) rfl rfl ?_; refine wpO_cons ?_; refine op1_dyn2 rfl rfl (by (conv => lhs; whnf) <;> rfl) (by (conv => lhs; whnf) <;> rfl) ?_
    refine wpF_mono (L61 (e := x) (v1 := .slice ava x.data.length cva) (v2 := .slice avb x.data.length cvb) hS ?_ ?_) ?_
    · exact RD.cons (RD.cons (RD.cons (RD.cons (RD.cons (endA_rd hx hcsa)))))
    · exact RD.cons (RD.cons (RD.cons (endA_rd hx hcsb)))
    rintro _ H8 ⟨rfl, hS⟩
    refine wpO_cons ?_; refine op1_not_t rfl rfl ?_; refine zns ?_; refine wp_false rfl ?_; refine wp_skip ?_; refine block_normal ?_; refine seq_normal ?_; refine wp_region ?_; refine wpO_cons ?_; refine op1_add rfl rfl rfl (by exact wrap_i64 (by omega) (by omega)) ?_; refine zw1 ?_; refine wpO_nil ?_
    exact ⟨k - 1, by omega, i + 1, rfl, by omega, S.drop (S.drop hS)⟩
  · obtain rfl : i = es.length := by omega
    refine wp_exit ?_; refine seq_exit ?_; refine iter_exit ?_; refine block_exit ?_; refine seq_normal ?_; refine zsr ?_; refine zw1 ?_; refine zns ?_; refine wp_ret ?_; refine ret_of ?_; refine rk_tmp (by (conv => lhs; whnf) <;> rfl) ?_; refine rk_nil ?_
    exact ⟨rfl, S.drop (S.drop (S.drop (S.drop hS)))⟩
theorem L56 {B H : AHeap} {As : List Asn} {es : List EndM} {va vb : Value} (hS : S B H (arr 4 endA va es :: arr 4 endA vb es :: As)) (hl : es.length ≤ 1000000) :
    wpF C 56 [va, vb] H fun v H' => v = .bool true ∧ S B H' As := by
  refine wpF_ofW o56 rfl rfl ?_
  refine zsr ?_; refine zw1 ?_; refine zns ?_; refine zsr ?_; refine zw1 ?_; refine zw1 ?_; refine wpO_cons ?_; refine op1_call3 rfl (by (conv => lhs; whnf) <;> rfl) (by (conv => lhs; whnf) <;> rfl) (by (conv => lhs; whnf) <;> rfl) ?_
  refine wpF_mono (L70 hS hl) ?_
  rintro _ H1 ⟨rfl, hS⟩
  refine zw1 ?_; refine zns ?_; refine wp_ret ?_; refine ret_of ?_; refine rk_tmp (by (conv => lhs; whnf) <;> rfl) ?_; refine rk_nil ?_
  exact ⟨rfl, hS⟩
theorem prog_len : ∀ (k : Nat) (s : PP) (acc : List EndM), mu s ≤ k → Ok s → (prog s acc).1.length ≤ acc.length + mu s := by
  intro k
  induction k with
  | zero =>
    intro s acc hk hok
    have hi : stepI s = none := by
      cases h : stepI s with
      | none => rfl
      | some r => have := stepI_mu (fun w hw => (hok.ws w hw).1) (show stepI s = some (r.1, r.2) from h); omega
    rw [prog_none hi]
    exact Nat.le_add_right _ _
  | succ k ih =>
    intro s acc hk hok
    rcases hi : stepI s with _ | ⟨e, s1⟩
    · rw [prog_none hi]
      exact Nat.le_add_right _ _
    · have := stepI_mu (fun w hw => (hok.ws w hw).1) hi
      rw [prog_some hok hi]
      have h1 := ih s1 (acc ++ e.toList) (by omega) (stepI_ok hi hok)
      have h2 : e.toList.length ≤ 1 := by cases e <;> simp
      rw [List.length_append] at h1
      omega
theorem ends_le {s : PP} (hok : Ok s) : (prog s []).1.length ≤ 1000000 := by
  have h1 := prog_len _ s [] (Nat.le_refl _) hok
  have h2 := mu_le hok
  simp only [List.length_nil] at h1
  omega
theorem closeR_le {s : PP} (hok : Ok s) : s.closeR.1.length ≤ 1000000 := by
  unfold PP.closeR
  split
  · simp
  · split
    · simp
    · exact ends_le (okCR hok (by assumption))
theorem closeW_le {s : PP} (hok : Ok s) : s.closeW.1.length ≤ 1000000 := by
  unfold PP.closeW
  split
  · simp
  · split
    · simp
    · exact ends_le (okCW hok (by assumption))
theorem read_le {s : PP} (hok : Ok s) (t n : Int) (w : Bool) : (s.read t n w).ends.length ≤ 1000000 := by
  unfold PP.read
  repeat' split
  all_goals first | exact ends_le (okTake hok n) | simp
theorem write_le {s : PP} (hok : Ok s) (t : Int) (d : List Int) (w : Bool) : (s.write t d w).ends.length ≤ 1000000 := by
  unfold PP.write
  repeat' split
  all_goals first | exact ends_le (okPut hok d) | (simp; done) | skip
  rename_i h2 h3 h4 h5 h6 h7 h8 h9 h10
  refine ends_le (okQueue (okPut hok d) ?_ ⟨?_, ?_⟩)
  · show s.writers.length < 64
    exact Nat.lt_of_not_le fun hw => h8 ⟨.inr ⟨h10.2, by omega⟩, hw⟩
  · exact h10.1
  · show d.length ≤ 4096
    omega
theorem cancel_le {s : PP} (hok : Ok s) (t : Int) : (s.cancelG (prog · []) t).ends.length ≤ 1000000 := by
  unfold PP.cancelG
  split
  · exact ends_le (okNoR hok _)
  · split
    · exact ends_le (okNoW hok _)
    · simp

theorem cancel_data (pr : PP → List EndM × PP) (s : PP) (t : Int) : (s.cancelG pr t).e.data = [] := by
  unfold PP.cancelG
  split
  · rfl
  · split <;> rfl
end Go.E.Pi
