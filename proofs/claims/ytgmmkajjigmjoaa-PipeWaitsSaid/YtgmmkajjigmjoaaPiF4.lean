/- The pipe goes on: progress. -/
import Derived.Test.YtgmmkajjigmjoaaPiF123
namespace Go.E.Pi
open Go Go.E Go.Proofs.Ytgmmkajjigmjoaa Go.Proofs
set_option linter.unusedVariables false
set_option linter.unusedSimpArgs false
set_option maxRecDepth 100000

structure Ok (s : PP) : Prop where
  cap : 1 ≤ s.cap ∧ s.cap ≤ 4096
  atm : 1 ≤ s.atomic ∧ s.atomic ≤ s.cap
  o0 : 0 ≤ s.o0 ∧ s.o0 ≤ 64
  o1 : 0 ≤ s.o1 ∧ s.o1 ≤ 64
  rl : s.readers.length ≤ 64
  wl : s.writers.length ≤ 64
  rs : ∀ r ∈ s.readers, 0 < r.2 ∧ r.2 ≤ 4096
  ws : ∀ w ∈ s.writers, w.done < w.data.length ∧ w.data.length ≤ 4096
  buf : s.buf.length ≤ s.cap

/-- a reader goes on -/
def stepR (s : PP) : Option (Option EndM × PP) := match s.readers with
  | [] => none
  | x :: rs => if 0 < s.buf.length ∨ (s.o1 = 0 ∧ s.writers.length = 0) then
      some (some ⟨x.1, s.buf.take (min x.2 s.buf.length).toNat, (min x.2 s.buf.length).toNat, 0⟩, { s with buf := s.buf.drop (min x.2 s.buf.length).toNat, readers := rs }) else none
/-- how many bytes the first writer puts -/
def putN (s : PP) (w : Wr) : Nat := min (w.data.length - w.done) (s.cap - s.buf.length)
def stepI (s : PP) : Option (Option EndM × PP) := match s.writers with
  | [] => stepR s
  | w :: ws =>
    if s.o0 = 0 then some (some ⟨w.thread, [], w.done, 33⟩, { s with writers := ws })
    else if s.fits w.data.length = true then
      (if w.done + putN s w = w.data.length then some (some ⟨w.thread, [], (w.done + putN s w : Nat), 0⟩, { s with buf := s.buf ++ (w.data.drop w.done).take (putN s w), writers := ws })
       else some (none, { s with buf := s.buf ++ (w.data.drop w.done).take (putN s w), writers := { w with done := w.done + putN s w } :: ws }))
    else stepR s
def wsum (l : List Wr) : Nat := (l.map fun w => w.data.length - w.done + 1).sum
def mu (s : PP) : Nat := wsum s.writers + s.readers.length
def progN : Nat → PP → List EndM → List EndM × PP
  | 0, s, acc => (acc, s)
  | n + 1, s, acc => match stepI s with
    | none => (acc, s)
    | some (e, s') => progN n s' (acc ++ e.toList)
def prog (s : PP) (acc : List EndM) : List EndM × PP := progN (mu s) s acc

theorem stepR_mu {s s' : PP} {e : Option EndM} (h : stepR s = some (e, s')) : mu s' < mu s ∧ s'.cap = s.cap := by
  unfold stepR at h
  split at h
  · cases h
  · rename_i x rs hr
    split at h
    · cases h
      unfold mu
      rw [hr]
      simp
    · cases h
theorem stepI_mu {s s' : PP} {e : Option EndM} (hok : ∀ w ∈ s.writers, w.done < w.data.length) (h : stepI s = some (e, s')) : mu s' < mu s := by
  unfold stepI at h
  split at h
  · exact (stepR_mu h).1
  · rename_i w ws hw
    have hw1 := hok w (by rw [hw]; simp)
    split at h
    · cases h
      unfold mu wsum
      rw [hw]
      simp only [List.map_cons, List.sum_cons]
      omega
    · split at h
      · rename_i hf
        split at h
        · cases h
          unfold mu wsum
          rw [hw]
          simp only [List.map_cons, List.sum_cons]
          omega
        · rename_i hne
          cases h
          unfold mu wsum
          rw [hw]
          simp only [List.map_cons, List.sum_cons]
          unfold PP.fits at hf
          unfold putN at hne ⊢
          have : 0 < s.cap - s.buf.length := by
            split at hf
            · simp at hf; omega
            · simpa using hf
          omega
      · exact (stepR_mu h).1

theorem stepR_ok {s s' : PP} {e : Option EndM} (h : stepR s = some (e, s')) (hok : Ok s) : Ok s' := by
  unfold stepR at h
  split at h
  · cases h
  · rename_i x rs hr
    split at h
    · cases h
      have hrl := hok.rl
      rw [hr] at hrl
      exact ⟨hok.cap, hok.atm, hok.o0, hok.o1, by simp at hrl; simp only; omega, hok.wl, fun r hm => hok.rs r (by rw [hr]; simp [hm]), hok.ws, by have := hok.buf; simp only [List.length_drop]; omega⟩
    · cases h
theorem stepI_ok {s s' : PP} {e : Option EndM} (h : stepI s = some (e, s')) (hok : Ok s) : Ok s' := by
  unfold stepI at h
  split at h
  · exact stepR_ok h hok
  · rename_i w ws hw
    have hw1 := hok.ws w (by rw [hw]; simp)
    have hwl := hok.wl
    rw [hw] at hwl
    simp only [List.length_cons] at hwl
    have hb := hok.buf
    split at h
    · cases h
      exact ⟨hok.cap, hok.atm, hok.o0, hok.o1, hok.rl, by simp only; omega, hok.rs, fun r hm => hok.ws r (by rw [hw]; simp [hm]), hb⟩
    · have hpl : ((w.data.drop w.done).take (putN s w)).length = putN s w := by
        unfold putN; simp only [List.length_take, List.length_drop]; omega
      have hbl : (s.buf ++ (w.data.drop w.done).take (putN s w)).length ≤ s.cap := by
        rw [List.length_append, hpl]; unfold putN; omega
      split at h
      · split at h
        · cases h
          exact ⟨hok.cap, hok.atm, hok.o0, hok.o1, hok.rl, by simp only; omega, hok.rs, fun r hm => hok.ws r (by rw [hw]; simp [hm]), hbl⟩
        · rename_i hne
          cases h
          refine ⟨hok.cap, hok.atm, hok.o0, hok.o1, hok.rl, by simp only [List.length_cons]; omega, hok.rs, fun r hm => ?_, hbl⟩
          simp only [List.mem_cons] at hm
          rcases hm with rfl | hm
          · refine ⟨?_, hw1.2⟩
            show w.done + putN s w < w.data.length
            have : putN s w ≤ w.data.length - w.done := by unfold putN; omega
            omega
          · exact hok.ws r (by rw [hw]; simp [hm])
      · exact stepR_ok h hok

theorem progN_more {s : PP} {acc : List EndM} (hok : Ok s) : ∀ {n m : Nat}, mu s ≤ n → mu s ≤ m → progN n s acc = progN m s acc := by
  suffices h : ∀ k s acc, Ok s → mu s ≤ k → ∀ n m, mu s ≤ n → mu s ≤ m → progN n s acc = progN m s acc from fun {n m} h1 h2 => h _ s acc hok (Nat.le_refl _) n m h1 h2
  intro k
  induction k with
  | zero =>
    intro s acc hok h0 n m h1 h2
    have hs : stepI s = none := by
      cases hq : stepI s with
      | none => rfl
      | some x => have := stepI_mu (fun w hw => (hok.ws w hw).1) (show stepI s = some (x.1, x.2) from hq); omega
    cases n <;> cases m <;> simp [progN, hs]
  | succ k ih =>
    intro s acc hok h0 n m h1 h2
    cases hq : stepI s with
    | none => cases n <;> cases m <;> simp [progN, hq]
    | some x =>
      obtain ⟨e, s'⟩ := x
      have hmu := stepI_mu (fun w hw => (hok.ws w hw).1) hq
      obtain ⟨n, rfl⟩ : ∃ t, n = t + 1 := ⟨n - 1, by omega⟩
      obtain ⟨m, rfl⟩ : ∃ t, m = t + 1 := ⟨m - 1, by omega⟩
      simp only [progN, hq]
      exact ih s' _ (stepI_ok hq hok) (by omega) n m (by omega) (by omega)
theorem prog_none {s : PP} {acc : List EndM} (h : stepI s = none) : prog s acc = (acc, s) := by
  unfold prog
  cases mu s <;> simp [progN, h]
theorem prog_some {s s' : PP} {e : Option EndM} {acc : List EndM} (hok : Ok s) (h : stepI s = some (e, s')) : prog s acc = prog s' (acc ++ e.toList) := by
  have hmu := stepI_mu (fun w hw => (hok.ws w hw).1) h
  unfold prog
  obtain ⟨n, hn⟩ : ∃ t, mu s = t + 1 := ⟨mu s - 1, by omega⟩
  rw [hn]
  simp only [progN, h]
  exact progN_more (stepI_ok h hok) (by omega) (Nat.le_refl _)

theorem endA_nil {B H : AHeap} {As : List Asn} {e : EndM} (hd : e.data = []) (hS : S B H As) : S B H (endA e [.int .i64 e.thread, .slice none 0 0, .int .i64 e.count, .int .i64 e.err] :: As) := by
  refine S.exI (.slice none 0 0) (S.seps ?_)
  rw [hd]
  exact S.slNil (S.pur rfl hS)
theorem endA_of {B H : AHeap} {As : List Asn} {e : EndM} {vd : Value} (hS : S B H (sl 1 vd (u8s e.data) :: As)) : S B H (endA e [.int .i64 e.thread, vd, .int .i64 e.count, .int .i64 e.err] :: As) :=
  S.exI vd (S.seps (S.up1 (S.pur rfl hS)))
theorem wrA_of {B H : AHeap} {As : List Asn} {w : Wr} {vd : Value} (hS : S B H (sl 1 vd (u8s w.data) :: As)) : S B H (wrA w [.int .i64 w.thread, vd, .int .i64 w.done] :: As) :=
  S.exI vd (S.seps (S.up1 (S.pur rfl hS)))
theorem wrA_un {B H : AHeap} {As : List Asn} {w : Wr} {cs : List Value} (hS : S B H (wrA w cs :: As)) : ∃ a c, cs = [.int .i64 w.thread, .slice a w.data.length c, .int .i64 w.done] ∧ w.data.length ≤ c ∧ S B H (sl 1 (.slice a w.data.length c) (u8s w.data) :: As) := by
  obtain ⟨vd, hS⟩ := S.unex hS
  obtain ⟨h1, hS⟩ := S.unpur (S.up1 (S.unseps hS))
  obtain ⟨a, c, rfl⟩ := S.u1 hS
  exact ⟨a, c, h1, S.len_le hS, hS⟩
theorem many_one_of {X : Type} {E : X → List Value → Asn} {es : Nat} {B H : AHeap} (hE : ∀ {x : X} {cs : List Value} {o : List Nat}, (E x cs).f H o → cs.all (·.oneCell') = true) : ∀ {xs : List X} {css : List (List Value)} {As : List Asn}, S B H (many E xs css :: As) → css.flatten.all (·.oneCell') = true
  | [], css, As, h => by rw [h.many_unnil.1]; rfl
  | x :: xs, css, As, h => by
    obtain ⟨cs, css, rfl, h1⟩ := h.many_uncons
    obtain ⟨o, O, k1, _⟩ := h1.inv
    rw [List.flatten_cons, List.all_append, hE k1, many_one_of (es := es) hE h1.drop]
    rfl
theorem wr_one {B H : AHeap} {As : List Asn} {ws : List Wr} {css : List (List Value)} (h : S B H (many wrA ws css :: As)) : css.flatten.all (·.oneCell') = true :=
  many_one_of (es := 3) (fun {x cs o} k => by obtain ⟨a, c, rfl, _⟩ := wrA_at k; rfl) h
end Go.E.Pi
