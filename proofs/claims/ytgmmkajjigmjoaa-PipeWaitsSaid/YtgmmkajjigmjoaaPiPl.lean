/- Both pipes go on alike: the plain part. -/
import Derived.Test.YtgmmkajjigmjoaaPiR34
namespace Go.E.Pi
open Go Go.E Go.Proofs.Ytgmmkajjigmjoaa Go.Proofs
set_option linter.unusedVariables false
set_option linter.unusedSimpArgs false
set_option maxRecDepth 100000

/-- what is to be written at once has not been begun -/
def AD (s : PP) : Prop := ∀ w ∈ s.writers, (w.data.length : Int) ≤ s.atomic → w.done = 0
theorem stepI_eq {s : PP} (hok : Ok s) (had : AD s) : stepI s = match stepWr s with | none => stepR s | some r => some r := by
  unfold stepI stepWr
  rcases hw : s.writers with _ | ⟨w, ws⟩
  · rfl
  have hwo := hok.ws w (by rw [hw]; simp)
  have hwd := had w (by rw [hw]; simp)
  have hbl := hok.buf
  simp only
  by_cases h0 : s.o0 = 0
  · rw [if_pos h0, if_pos h0]
  rw [if_neg h0, if_neg h0]
  have hfit : (s.fits w.data.length = true ∧ fitW s w = putN s w ∧ fitW s w ≠ 0) ∨ (s.fits w.data.length = false ∧ fitW s w = 0) := by
    unfold PP.fits fitW fitN putN
    by_cases ha : (w.data.length : Int) ≤ s.atomic
    · have hd := hwd ha
      rw [if_pos ha, decide_eq_true ha, hd, Nat.sub_zero, if_pos rfl]
      by_cases hl : w.data.length ≤ s.cap - s.buf.length
      · rw [if_pos hl]
        exact .inl ⟨decide_eq_true hl, by omega, by omega⟩
      · rw [if_neg hl]
        exact .inr ⟨decide_eq_false hl, rfl⟩
    · rw [if_neg ha, decide_eq_false ha, if_neg (show ¬ (false = true) by simp)]
      by_cases hf : 0 < s.cap - s.buf.length
      · refine .inl ⟨decide_eq_true hf, ?_, ?_⟩ <;> split <;> omega
      · refine .inr ⟨decide_eq_false hf, ?_⟩
        split <;> omega
  rcases hfit with ⟨h1, h2, h3⟩ | ⟨h1, h2⟩
  · rw [if_pos h1, if_neg h3, h2]
    by_cases hq : w.done + putN s w = w.data.length
    · rw [if_pos hq]
    · rw [if_neg hq]
  · rw [if_neg (by rw [h1]; simp), if_pos h2]
theorem stepWr_ad {s s' : PP} {e : Option EndM} (hok : Ok s) (had : AD s) (h : stepWr s = some (e, s')) : AD s' := by
  unfold stepWr at h
  split at h
  · cases h
  · rename_i w ws hw
    have hwo := hok.ws w (by rw [hw]; simp)
    have hwd := had w (by rw [hw]; simp)
    split at h
    · cases h
      intro x hx
      exact had x (by rw [hw]; exact List.mem_cons_of_mem _ hx)
    · split at h
      · cases h
      rename_i hf
      split at h
      · cases h
        intro x hx
        exact had x (by rw [hw]; exact List.mem_cons_of_mem _ hx)
      · rename_i hne
        cases h
        intro x hx hl
        simp only [List.mem_cons] at hx
        rcases hx with rfl | hx
        · exfalso
          have hd := hwd hl
          unfold fitW fitN at hf hne
          simp only at hl
          rw [decide_eq_true hl, hd] at hf hne
          split at hne
          · omega
          · rename_i hq
            rw [if_neg hq, if_pos rfl] at hf
            exact hf rfl
        · exact had x (by rw [hw]; exact List.mem_cons_of_mem _ hx) hl
theorem stepR_w {s s' : PP} {e : Option EndM} (h : stepR s = some (e, s')) : s'.writers = s.writers ∧ s'.atomic = s.atomic ∧ s.readers ≠ [] := by
  unfold stepR at h
  split at h
  · cases h
  · rename_i x rs hr
    split at h
    · cases h
      exact ⟨rfl, rfl, by rw [hr]; simp⟩
    · cases h
theorem stepR_ad {s s' : PP} {e : Option EndM} (had : AD s) (h : stepR s = some (e, s')) : AD s' := by
  obtain ⟨h1, h2, _⟩ := stepR_w h
  intro w hw
  rw [h2]
  exact had w (by rw [← h1]; exact hw)
theorem stepI_ad {s s' : PP} {e : Option EndM} (hok : Ok s) (had : AD s) (h : stepI s = some (e, s')) : AD s' := by
  rw [stepI_eq hok had] at h
  cases hw : stepWr s with
  | none => rw [hw] at h; exact stepR_ad had h
  | some r =>
    rw [hw] at h
    cases h
    exact stepWr_ad hok had hw
theorem stepWr_r {s s' : PP} {e : Option EndM} (h : stepWr s = some (e, s')) : s'.readers = s.readers ∧ s'.writers.length ≤ s.writers.length := by
  unfold stepWr at h
  split at h
  · cases h
  · rename_i w ws hw
    split at h
    · cases h
      exact ⟨rfl, by rw [hw]; simp⟩
    · split at h
      · cases h
      split at h
      · cases h
        exact ⟨rfl, by rw [hw]; simp⟩
      · cases h
        exact ⟨rfl, by rw [hw]; simp⟩
/-- after a lone writer has gone on, it cannot at once again -/
theorem stepWr_one {s s' : PP} {e : Option EndM} (hok : Ok s) (h : stepWr s = some (e, s')) (h1 : s.writers.length ≤ 1) : stepWr s' = none := by
  unfold stepWr at h
  split at h
  · cases h
  · rename_i w ws hw
    have hws : ws = [] := by
      rw [hw] at h1
      simp only [List.length_cons] at h1
      exact List.eq_nil_of_length_eq_zero (by omega)
    subst hws
    have hwo := hok.ws w (by rw [hw]; simp)
    have hbl := hok.buf
    split at h
    · cases h; rfl
    · rename_i h0
      split at h
      · cases h
      rename_i hf
      split at h
      · cases h; rfl
      · rename_i hne
        cases h
        have hle := fitW_le s w hbl
        have hfr : fitW s w = s.cap - s.buf.length := by
          unfold fitW fitN at hf hne ⊢
          split at hne
          · omega
          · rename_i hq
            rw [if_neg hq] at hf ⊢
            split at hf
            · exact absurd rfl hf
            · rename_i hq2
              rw [if_neg hq2]
        have hpl : ((w.data.drop w.done).take (fitW s w)).length = fitW s w := by
          simp only [List.length_take, List.length_drop]; omega
        unfold stepWr
        simp only
        rw [if_neg h0, if_pos]
        have hbl2 : (s.buf ++ (w.data.drop w.done).take (fitW s w)).length = s.cap := by
          rw [List.length_append, hpl, hfr]; omega
        unfold fitW fitN at hbl2 ⊢
        simp only
        rw [hbl2]
        have hfe : fitN s (w.data.length - w.done) (decide ((w.data.length : Int) ≤ s.atomic)) = fitW s w := rfl
        unfold fitN at hfe
        rw [hfe]
        rw [if_neg (by omega)]
        split
        · rfl
        · omega

theorem prog_eq : ∀ (k : Nat) (s : PP) (acc : List EndM), mu s ≤ k → Ok s → AD s → (s.writers.length ≤ 1 ∨ s.readers = []) → progQN (mu s + 1) s acc = prog s acc := by
  intro k
  induction k with
  | zero =>
    intro s acc hk hok had hc
    have h1 : stepWr s = none := by
      cases h : stepWr s with
      | none => rfl
      | some r => have := stepWr_mu hok (show stepWr s = some (r.1, r.2) from h); omega
    have h2 : stepR s = none := by
      cases h : stepR s with
      | none => rfl
      | some r => have := (stepR_mu (show stepR s = some (r.1, r.2) from h)).1; omega
    have hi : stepI s = none := by rw [stepI_eq hok had, h1, h2]
    rw [prog_none hi, progQN, if_neg]
    unfold turn
    rw [h1]
    simp only [resOf]
    rw [h2]
    simp
  | succ k ih =>
    intro s acc hk hok had hc
    rcases h1 : stepWr s with _ | ⟨e, s1⟩
    · rcases h2 : stepR s with _ | ⟨e, s1⟩
      · have hi : stepI s = none := by rw [stepI_eq hok had, h1, h2]
        rw [prog_none hi, progQN, if_neg]
        unfold turn
        rw [h1]
        simp only [resOf]
        rw [h2]
        simp
      · have hi : stepI s = some (e, s1) := by rw [stepI_eq hok had, h1, h2]
        rw [prog_some hok hi]
        have ht : turn s acc = (acc ++ e.toList, true, s1) := by
          unfold turn
          rw [h1]
          simp only [resOf]
          rw [h2]
          rfl
        have hmu := (stepR_mu h2).1
        obtain ⟨hw1, hw2, hrs⟩ := stepR_w h2
        have hok1 := stepR_ok h2 hok
        rw [progQN, if_pos (by rw [ht]), ht]
        simp only
        rw [progQN_more (m := mu s1 + 1) hok1 hmu (by omega)]
        exact ih s1 _ (by omega) hok1 (stepR_ad had h2) (by
          rcases hc with hc | hc
          · exact .inl (by rw [hw1]; exact hc)
          · exact absurd hc hrs)
    · have hi : stepI s = some (e, s1) := by rw [stepI_eq hok had, h1]
      have hmu1 := stepWr_mu hok h1
      have hok1 := stepWr_ok h1 hok
      have had1 := stepWr_ad hok had h1
      obtain ⟨hr1, hl1⟩ := stepWr_r h1
      rw [prog_some hok hi]
      rcases h2 : stepR s1 with _ | ⟨e2, s2⟩
      · have ht : turn s acc = (acc ++ e.toList, true, s1) := by
          unfold turn
          rw [h1]
          simp only [resOf]
          rw [h2]
          rfl
        rw [progQN, if_pos (by rw [ht]), ht]
        simp only
        rw [progQN_more (m := mu s1 + 1) hok1 hmu1 (by omega)]
        exact ih s1 _ (by omega) hok1 had1 (by
          rcases hc with hc | hc
          · exact .inl (by omega)
          · exact .inr (by rw [hr1]; exact hc))
      · have ht : turn s acc = (acc ++ e.toList ++ e2.toList, true, s2) := by
          unfold turn
          rw [h1]
          simp only [resOf]
          rw [h2]
          rfl
        obtain ⟨hw1, hw2, hrs⟩ := stepR_w h2
        have hc1 : s.writers.length ≤ 1 := by
          rcases hc with hc | hc
          · exact hc
          · exact absurd (hr1.trans hc) hrs
        have hi1 : stepI s1 = some (e2, s2) := by rw [stepI_eq hok1 had1, stepWr_one hok h1 hc1, h2]
        have hmu2 := (stepR_mu h2).1
        have hok2 := stepR_ok h2 hok1
        rw [prog_some hok1 hi1, progQN, if_pos (by rw [ht]), ht]
        simp only
        rw [progQN_more (m := mu s2 + 1) hok2 (by omega) (by omega)]
        exact ih s2 _ (by omega) hok2 (stepR_ad had1 h2) (.inl (by rw [hw1]; omega))
theorem progQ_eq {s : PP} (hok : Ok s) (had : AD s) (hc : s.writers.length ≤ 1 ∨ s.readers = []) : progQ s = prog s [] := prog_eq _ s [] (Nat.le_refl _) hok had hc

/-- at rest -/
structure Rest (s : PP) : Prop where
  ok : Ok s
  ad : AD s
  no : stepI s = none
theorem prog_rest {s : PP} (hok : Ok s) (had : AD s) (acc : List EndM) : Rest (prog s acc).2 := by
  suffices h : ∀ k (s : PP) acc, mu s ≤ k → Ok s → AD s → Rest (prog s acc).2 from h _ s acc (Nat.le_refl _) hok had
  intro k
  induction k with
  | zero =>
    intro s acc hk hok had
    have hi : stepI s = none := by
      cases h : stepI s with
      | none => rfl
      | some r => have := stepI_mu (fun w hw => (hok.ws w hw).1) (show stepI s = some (r.1, r.2) from h); omega
    rw [prog_none hi]
    exact ⟨hok, had, hi⟩
  | succ k ih =>
    intro s acc hk hok had
    rcases hi : stepI s with _ | ⟨e, s1⟩
    · rw [prog_none hi]
      exact ⟨hok, had, hi⟩
    · have := stepI_mu (fun w hw => (hok.ws w hw).1) hi
      rw [prog_some hok hi]
      exact ih s1 _ (by omega) (stepI_ok hi hok) (stepI_ad hok had hi)

theorem Rest.io {s : PP} (h : Rest s) : s.readers = [] ∨ s.writers = [] := by
  rcases hw : s.writers with _ | ⟨w, ws⟩
  · exact .inr rfl
  rcases hr : s.readers with _ | ⟨x, rs⟩
  · exact .inl rfl
  exfalso
  have hn := h.no
  have hok := h.ok
  have hwo := hok.ws w (by rw [hw]; simp)
  have hcap := hok.cap
  have hatm := hok.atm
  have hbl := hok.buf
  unfold stepI at hn
  rw [hw] at hn
  simp only at hn
  split at hn
  · cases hn
  · split at hn
    · split at hn <;> cases hn
    · rename_i hf
      unfold stepR at hn
      rw [hr] at hn
      simp only at hn
      split at hn
      · cases hn
      · rename_i hb
        have hb0 : s.buf.length = 0 := by
          rcases Nat.eq_zero_or_pos s.buf.length with h | h
          · exact h
          · exact absurd (.inl h) hb
        unfold PP.fits at hf
        split at hf
        · simp at hf; omega
        · simp at hf; omega
theorem Rest.cond {s : PP} (h : Rest s) : s.writers.length ≤ 1 ∨ s.readers = [] := by
  rcases h.io with h | h
  · exact .inr h
  · exact .inl (by rw [h]; simp)
/-- a state like one at rest -/
theorem Rest.wr {s : PP} (h : Rest s) : s.writers = [] → stepR s = none := by
  intro hw
  have := h.no
  unfold stepI at this
  rw [hw] at this
  exact this
theorem stepR_none {s : PP} : stepR s = none ↔ (s.readers = [] ∨ (s.buf.length = 0 ∧ ¬ (s.o1 = 0 ∧ s.writers.length = 0))) := by
  unfold stepR
  split
  · rename_i h; simp [h]
  · rename_i x rs h
    constructor
    · intro hn
      split at hn
      · cases hn
      · rename_i hb
        exact .inr ⟨by rcases Nat.eq_zero_or_pos s.buf.length with h | h; exact h; exact absurd (.inl h) hb, fun h => hb (.inr h)⟩
    · intro hn
      rcases hn with hn | hn
      · rw [h] at hn; cases hn
      · rw [if_neg (fun h => h.elim (fun h => by omega) hn.2)]
theorem stepI_none {s : PP} : stepI s = none ↔ (stepR s = none ∧ ∀ w ws, s.writers = w :: ws → s.o0 ≠ 0 ∧ s.fits w.data.length = false) := by
  unfold stepI
  split
  · rename_i h
    rw [h]
    constructor
    · intro h; exact ⟨h, fun _ _ h => by cases h⟩
    · exact fun h => h.1
  · rename_i w ws h
    rw [h]
    constructor
    · intro hn
      split at hn
      · cases hn
      · rename_i h0
        split at hn
        · split at hn <;> cases hn
        · rename_i hf
          exact ⟨hn, fun _ _ he => by cases he; exact ⟨h0, by simpa using hf⟩⟩
    · intro hn
      obtain ⟨h1, h2⟩ := hn.2 w ws rfl
      rw [if_neg h1, if_neg (by rw [h2]; simp)]
      exact hn.1

theorem Rest.openR {s : PP} (h : Rest s) : Rest s.openR.2 := by
  refine ⟨okOpenR h.ok, ?_, ?_⟩
  · unfold PP.openR; split <;> exact h.ad
  · obtain ⟨h1, h2⟩ := stepI_none.1 h.no
    have := h.ok.o0
    unfold PP.openR
    split
    · exact h.no
    · have h4 := stepR_none.1 h1
      have h3 : stepR { s with o0 := s.o0 + 1 } = none := stepR_none.2 h4
      exact stepI_none.2 ⟨h3, fun w ws hw => ⟨by simp only; omega, (h2 w ws hw).2⟩⟩
theorem Rest.openW {s : PP} (h : Rest s) : Rest s.openW.2 := by
  refine ⟨okOpenW h.ok, ?_, ?_⟩
  · unfold PP.openW; split <;> exact h.ad
  · obtain ⟨h1, h2⟩ := stepI_none.1 h.no
    have := h.ok.o1
    unfold PP.openW
    split
    · exact h.no
    · refine stepI_none.2 ⟨stepR_none.2 ?_, fun w ws hw => h2 w ws hw⟩
      rcases stepR_none.1 h1 with h1 | h1
      · exact .inl h1
      · exact .inr ⟨h1.1, fun h => by have := h.1; simp only at this; omega⟩
theorem Rest.closeR {s : PP} (h : Rest s) : s.closeRQ = s.closeR ∧ Rest s.closeR.2.2 := by
  unfold PP.closeRQ PP.closeR
  by_cases h1 : s.o0 = 0
  · rw [if_pos h1, if_pos h1]; exact ⟨rfl, h⟩
  rw [if_neg h1, if_neg h1]
  by_cases h2 : s.o0 = 1 ∧ 0 < s.readers.length
  · rw [if_pos h2, if_pos h2]; exact ⟨rfl, h⟩
  rw [if_neg h2, if_neg h2]
  have hok := okCR h.ok h1
  have had : AD { s with o0 := s.o0 - 1 } := h.ad
  rw [progQ_eq hok had h.cond]
  exact ⟨rfl, prog_rest hok had _⟩
theorem Rest.closeW {s : PP} (h : Rest s) : s.closeWQ = s.closeW ∧ Rest s.closeW.2.2 := by
  unfold PP.closeWQ PP.closeW
  by_cases h1 : s.o1 = 0
  · rw [if_pos h1, if_pos h1]; exact ⟨rfl, h⟩
  rw [if_neg h1, if_neg h1]
  by_cases h2 : s.o1 = 1 ∧ 0 < s.writers.length
  · rw [if_pos h2, if_pos h2]; exact ⟨rfl, h⟩
  rw [if_neg h2, if_neg h2]
  have hok := okCW h.ok h1
  have had : AD { s with o1 := s.o1 - 1 } := h.ad
  rw [progQ_eq hok had h.cond]
  exact ⟨rfl, prog_rest hok had _⟩
theorem Rest.read {s : PP} (h : Rest s) (t n : Int) (w : Bool) : s.readQ t n w = s.read t n w ∧ Rest (s.read t n w).s := by
  unfold PP.readQ PP.read
  by_cases h1 : t < 0 ∨ 256 ≤ t ∨ n < 0 ∨ 4096 < n
  · rw [if_pos h1, if_pos h1]; exact ⟨rfl, h⟩
  rw [if_neg h1, if_neg h1]
  by_cases h2 : s.o0 = 0
  · rw [if_pos h2, if_pos h2]; exact ⟨rfl, h⟩
  rw [if_neg h2, if_neg h2]
  by_cases h3 : s.blocked t = true
  · rw [if_pos h3, if_pos h3]; exact ⟨rfl, h⟩
  rw [if_neg h3, if_neg h3]
  by_cases h4 : n = 0
  · rw [if_pos h4, if_pos h4]; exact ⟨rfl, h⟩
  rw [if_neg h4, if_neg h4]
  by_cases h5 : s.readers.length = 0 ∧ 0 < s.buf.length
  · rw [if_pos h5, if_pos h5]
    have hok := okTake h.ok n
    have had : AD (s.rdTake n) := h.ad
    rw [progQ_eq hok had h.cond]
    exact ⟨rfl, prog_rest hok had _⟩
  rw [if_neg h5, if_neg h5]
  refine ⟨rfl, ?_⟩
  by_cases h6 : s.readers.length = 0 ∧ s.o1 = 0 ∧ s.writers.length = 0
  · rw [if_pos h6]; exact h
  rw [if_neg h6]
  by_cases h7 : w = false
  · rw [if_pos h7]; exact h
  rw [if_neg h7]
  by_cases h8 : 64 ≤ s.readers.length
  · rw [if_pos h8]; exact h
  rw [if_neg h8]
  refine ⟨⟨h.ok.cap, h.ok.atm, h.ok.o0, h.ok.o1, by simp only [List.length_append, List.length_cons, List.length_nil]; omega, h.ok.wl, fun r hr => ?_, h.ok.ws, h.ok.buf⟩, h.ad, ?_⟩
  · simp only [List.mem_append, List.mem_singleton] at hr
    rcases hr with hr | rfl
    · exact h.ok.rs r hr
    · simp only; omega
  · obtain ⟨k1, k2⟩ := stepI_none.1 h.no
    refine stepI_none.2 ⟨stepR_none.2 (.inr ?_), k2⟩
    rcases stepR_none.1 k1 with k1 | k1
    · have hr0 : s.readers.length = 0 := by rw [k1]; rfl
      exact ⟨by simp only; omega, fun hq => h6 ⟨hr0, hq⟩⟩
    · exact k1
theorem Rest.write {s : PP} (h : Rest s) (t : Int) (d : List Int) (w : Bool) : s.writeQ t d w = s.write t d w ∧ Rest (s.write t d w).s := by
  have hbl := h.ok.buf
  unfold PP.writeQ PP.write
  by_cases h1 : t < 0 ∨ 256 ≤ t
  · rw [if_pos h1, if_pos h1]; exact ⟨rfl, h⟩
  rw [if_neg h1, if_neg h1]
  by_cases h2 : 4096 < d.length
  · rw [if_pos h2, if_pos h2]; exact ⟨rfl, h⟩
  rw [if_neg h2, if_neg h2]
  by_cases h3 : s.o1 = 0
  · rw [if_pos h3, if_pos h3]; exact ⟨rfl, h⟩
  rw [if_neg h3, if_neg h3]
  by_cases h4 : s.blocked t = true
  · rw [if_pos h4, if_pos h4]; exact ⟨rfl, h⟩
  rw [if_neg h4, if_neg h4]
  by_cases h5 : s.o0 = 0
  · rw [if_pos h5, if_pos h5]; exact ⟨rfl, h⟩
  rw [if_neg h5, if_neg h5]
  by_cases h6 : d.length = 0
  · rw [if_pos h6, if_pos h6]; exact ⟨rfl, h⟩
  rw [if_neg h6, if_neg h6]
  have hcan : (s.can d = true ∧ s.nQ d = min d.length (s.cap - s.buf.length) ∧ s.nQ d ≠ 0 ∧ s.writers.length = 0 ∧ ((d.length : Int) ≤ s.atomic → s.nQ d = d.length)) ∨ (s.can d = false ∧ s.nQ d = 0 ∧ (s.writers = [] → s.fits d.length = false)) := by
    unfold PP.can PP.nQ fitN PP.fits
    by_cases hw : s.writers.length = 0
    · rw [if_pos hw, decide_eq_true hw, Bool.true_and]
      by_cases ha : (d.length : Int) ≤ s.atomic
      · rw [if_pos ha, decide_eq_true ha, if_pos rfl]
        by_cases hl : d.length ≤ s.cap - s.buf.length
        · rw [if_pos hl]
          exact .inl ⟨decide_eq_true hl, by omega, h6, hw, fun _ => rfl⟩
        · rw [if_neg hl]
          exact .inr ⟨decide_eq_false hl, rfl, fun _ => decide_eq_false hl⟩
      · rw [if_neg ha, decide_eq_false ha, if_neg (show ¬ (false = true) by simp)]
        by_cases hf : 0 < s.cap - s.buf.length
        · refine .inl ⟨decide_eq_true hf, ?_, ?_, hw, fun h => absurd h ha⟩ <;> split <;> omega
        · refine .inr ⟨decide_eq_false hf, ?_, fun _ => decide_eq_false hf⟩
          split <;> omega
    · rw [if_neg hw, decide_eq_false hw, Bool.false_and]
      exact .inr ⟨rfl, rfl, fun h => absurd (by rw [h]; rfl) hw⟩
  rcases hcan with ⟨c1, c2, c3, c4, c5⟩ | ⟨c1, c2, c3⟩
  · have hput : s.putQ d = s.put d := by unfold PP.putQ PP.put; rw [c2]
    have hop := okPut h.ok d
    have hw0 : s.writers = [] := List.eq_nil_of_length_eq_zero c4
    have e1 : ¬ (s.nQ d = 0 ∧ w = false) := fun hq => c3 hq.1
    have e2 : ¬ (s.can d = false ∧ w = false) := fun hq => by rw [c1] at hq; cases hq.1
    have e3 : ¬ (s.nQ d < d.length ∧ w = true ∧ 64 ≤ s.writers.length) := fun hq => by omega
    have e4 : ¬ ((s.can d = false ∨ w = true ∧ s.cap - s.buf.length < d.length) ∧ 64 ≤ s.writers.length) := fun hq => by omega
    have e5 : ¬ (s.can d = false) := by rw [c1]; simp
    rw [if_neg e1, if_neg e2, if_neg e3, if_neg e4, if_neg e5, hput, c2]
    by_cases hq : min d.length (s.cap - s.buf.length) < d.length ∧ w = true
    · have e6 : ¬ (min d.length (s.cap - s.buf.length) = d.length ∨ w = false) := fun h => by
        rcases h with h | h
        · omega
        · rw [hq.2] at h; cases h
      have e7 : ¬ (min d.length (s.cap - s.buf.length) = 0) := by omega
      rw [if_pos hq, if_neg e6, if_neg e7]
      have hok := okQueue (w := ⟨t, d, min d.length (s.cap - s.buf.length)⟩) hop (by show s.writers.length < 64; omega) ⟨by show min _ _ < d.length; exact hq.1, by show d.length ≤ 4096; omega⟩
      have had : AD ((s.put d).queue ⟨t, d, min d.length (s.cap - s.buf.length)⟩) := by
        intro x hx hl
        have hx : x ∈ s.writers ++ [⟨t, d, min d.length (s.cap - s.buf.length)⟩] := hx
        rw [hw0, List.nil_append, List.mem_singleton] at hx
        subst hx
        have := c5 hl
        omega
      rw [progQ_eq hok had (.inl (by show (s.writers ++ [_]).length ≤ 1; simp; omega))]
      exact ⟨rfl, prog_rest hok had _⟩
    · have e6 : min d.length (s.cap - s.buf.length) = d.length ∨ w = false := by
        by_cases hl : min d.length (s.cap - s.buf.length) = d.length
        · exact .inl hl
        · refine .inr ?_
          cases w
          · rfl
          · exact absurd ⟨by omega, rfl⟩ hq
      rw [if_neg hq, if_pos e6]
      have had : AD (s.put d) := h.ad
      rw [progQ_eq hop had (.inl (by show s.writers.length ≤ 1; omega))]
      exact ⟨rfl, prog_rest hop had _⟩
  · by_cases hw : w = false
    · have e1 : s.nQ d = 0 ∧ w = false := ⟨c2, hw⟩
      have e2 : s.can d = false ∧ w = false := ⟨c1, hw⟩
      rw [if_pos e1, if_pos e2]; exact ⟨rfl, h⟩
    have hw : w = true := by simpa using hw
    have e1 : ¬ (s.nQ d = 0 ∧ w = false) := fun hq => by rw [hw] at hq; cases hq.2
    have e2 : ¬ (s.can d = false ∧ w = false) := fun hq => by rw [hw] at hq; cases hq.2
    rw [if_neg e1, if_neg e2]
    by_cases hl : 64 ≤ s.writers.length
    · have e3 : s.nQ d < d.length ∧ w = true ∧ 64 ≤ s.writers.length := ⟨by omega, hw, hl⟩
      have e4 : (s.can d = false ∨ w = true ∧ s.cap - s.buf.length < d.length) ∧ 64 ≤ s.writers.length := ⟨.inl c1, hl⟩
      rw [if_pos e3, if_pos e4]; exact ⟨rfl, h⟩
    have e3 : ¬ (s.nQ d < d.length ∧ w = true ∧ 64 ≤ s.writers.length) := fun hq => hl hq.2.2
    have e4 : ¬ ((s.can d = false ∨ w = true ∧ s.cap - s.buf.length < d.length) ∧ 64 ≤ s.writers.length) := fun hq => hl hq.2
    have e5 : ¬ (s.nQ d = d.length ∨ w = false) := fun h => by
      rcases h with h | h
      · omega
      · rw [hw] at h; cases h
    rw [if_neg e3, if_neg e4, if_neg e5, if_pos c2, if_pos c1, c2]
    have hput : s.putQ d = s := by unfold PP.putQ; rw [c2]; simp
    rw [hput]
    refine ⟨rfl, okQueue h.ok (by omega) ⟨by show 0 < d.length; omega, by show d.length ≤ 4096; omega⟩, ?_, ?_⟩
    · intro x hx hl
      have hx : x ∈ s.writers ++ [⟨t, d, 0⟩] := hx
      rcases List.mem_append.1 hx with hx | hx
      · exact h.ad x hx hl
      · rw [List.mem_singleton] at hx
        subst hx
        rfl
    · obtain ⟨k1, k2⟩ := stepI_none.1 h.no
      refine stepI_none.2 ⟨stepR_none.2 ?_, fun x xs hx => ⟨h5, ?_⟩⟩
      · rcases stepR_none.1 k1 with k1 | k1
        · exact .inl k1
        · exact .inr ⟨k1.1, fun hq => by
            have := hq.2
            have : (s.writers ++ [(⟨t, d, 0⟩ : Wr)]).length = 0 := this
            simp at this⟩
      · have hx : s.writers ++ [⟨t, d, 0⟩] = x :: xs := hx
        rcases hws : s.writers with _ | ⟨y, ys⟩
        · rw [hws] at hx
          cases hx
          exact c3 hws
        · rw [hws] at hx
          cases hx
          exact (k2 _ _ hws).2
end Go.E.Pi
