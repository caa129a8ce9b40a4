/- Two connections that talk, in plain Lean: what is sent is what was written; what is taken is a prefix of it. -/
import Derived.Test.YtamcfhhcmjagnaaStCy
namespace Go.E.St
open Go Go.E Go.Proofs.Ytamcfhhcmjagnaa Go.Proofs
set_option linter.unusedVariables false
set_option linter.unusedSimpArgs false
set_option maxRecDepth 100000
theorem wrap_i32 (n : Int) : IntKind.i32.wrap n = (n + 2147483648) % 4294967296 - 2147483648 := by
  unfold IntKind.wrap; simp [IntKind.bits, IntKind.signed]
  split <;> omega
theorem before_eq (a b : Int) : before a b = decide (2147483648 ≤ (a - b) % 4294967296) := by
  unfold before
  rw [wrap_i32, wrap_u32, decide_eq_decide]
  omega
structure SegOk (f : Int) (ak : Bool) (w : List Int) (g : Sg) : Prop where
  syn : has g.fl 1 = true → g.seq = f ∧ g.data = [] ∧ has g.fl 4 = false
  dat : has g.fl 1 = false → g.data ≠ [] ∨ has g.fl 4 = true → ∃ o : Nat, g.seq = (f + 1 + o) % 4294967296 ∧ o + g.data.length ≤ w.length ∧ g.data = (w.drop o).take g.data.length ∧ (has g.fl 4 = true → ak = true ∧ o + g.data.length = w.length)
theorem SegOk.more {f : Int} {ak : Bool} {w d : List Int} {g : Sg} (h : SegOk f ak w g) (hd : ak = true → d = []) : SegOk f ak (w ++ d) g := by
  refine ⟨h.syn, fun h1 h2 => ?_⟩
  obtain ⟨o, e1, e2, e3, e4⟩ := h.dat h1 h2
  refine ⟨o, e1, by rw [List.length_append]; omega, ?_, fun k => ?_⟩
  · rw [List.drop_append_of_le_length (by omega), List.take_append_of_le_length (by rw [List.length_drop]; omega)]
    exact e3
  · obtain ⟨e5, e6⟩ := e4 k
    rw [hd e5, List.append_nil]
    exact ⟨e5, e6⟩
theorem SegOk.ask {f : Int} {ak : Bool} {w : List Int} {g : Sg} (h : SegOk f ak w g) : SegOk f true w g := by
  refine ⟨h.syn, fun h1 h2 => ?_⟩
  obtain ⟨o, e1, e2, e3, e4⟩ := h.dat h1 h2
  exact ⟨o, e1, e2, e3, fun k => ⟨rfl, (e4 k).2⟩⟩
structure Snd (s : Cn) (w : List Int) : Prop where
  wl : w.length ≤ 1000000
  win : (s.nxt - s.una) % 4294967296 ≤ 4097
  low : s.st ≤ 3 → s.una = s.first ∧ s.out = w ∧ (s.nxt = s.first ∨ s.nxt = (s.first + 1) % 4294967296) ∧ s.finGone = false
  high : 4 ≤ s.st → s.st ≠ 9 → ∃ a k : Nat, a ≤ w.length ∧ s.out = w.drop a ∧ s.una = (s.first + 1 + a + b2n s.finGone) % 4294967296 ∧ s.nxt = (s.una + k) % 4294967296 ∧ (k : Int) ≤ s.out.length + b2n (s.asked && !s.finGone) ∧ (s.finGone = true → a = w.length ∧ s.asked = true)
structure Rcv (f : Int) (ak : Bool) (w : List Int) (s : Cn) (r : List Int) : Prop where
  un : s.synced = false → r ++ s.inc = [] ∧ s.ended = false
  sy : s.synced = true → ∃ n : Nat, n ≤ w.length ∧ r ++ s.inc = w.take n ∧ s.rcv = (f + 1 + n + b2n s.ended) % 4294967296 ∧ (s.ended = true → n = w.length ∧ ak = true)
  st : 3 ≤ s.st → s.st ≠ 9 → s.synced = true
  st2 : s.st ≤ 2 → s.synced = false
theorem Rcv.more {f : Int} {ak : Bool} {w d : List Int} {s : Cn} {r : List Int} (h : Rcv f ak w s r) (hd : ak = true → d = []) : Rcv f ak (w ++ d) s r := by
  refine ⟨h.un, fun k => ?_, h.st, h.st2⟩
  obtain ⟨n, e1, e2, e3, e4⟩ := h.sy k
  refine ⟨n, by rw [List.length_append]; omega, by rw [List.take_append_of_le_length e1]; exact e2, e3, fun k => ?_⟩
  obtain ⟨e5, e6⟩ := e4 k
  rw [hd e6, List.append_nil]
  exact ⟨e5, e6⟩
theorem Rcv.ask {f : Int} {ak : Bool} {w : List Int} {s : Cn} {r : List Int} (h : Rcv f ak w s r) : Rcv f true w s r :=
  ⟨h.un, fun k => by
    obtain ⟨n, e1, e2, e3, e4⟩ := h.sy k
    exact ⟨n, e1, e2, e3, fun k => ⟨(e4 k).1, rfl⟩⟩, h.st, h.st2⟩
theorem Rcv.pre {f : Int} {ak : Bool} {w : List Int} {s : Cn} {r : List Int} (h : Rcv f ak w s r) : r <+: w := by
  cases hs : s.synced with
  | false =>
    have := (h.un hs).1
    rw [(List.append_eq_nil_iff.1 this).1]
    exact List.nil_prefix
  | true =>
    obtain ⟨n, _, e, _⟩ := h.sy hs
    exact (List.prefix_append r s.inc).trans (e ▸ List.take_prefix n w)
/-! ### the beginning -/
theorem Snd.new {f n t : Int} : Snd (cn0 f n t) [] := by
  refine ⟨by simp, by simp [cn0], fun _ => ⟨rfl, rfl, .inl rfl, rfl⟩, fun h => ?_⟩
  have : (4 : Int) ≤ 0 := h
  omega
theorem Rcv.new {f' f n t : Int} {ak : Bool} : Rcv f' ak [] (cn0 f n t) [] := by
  refine ⟨fun _ => ⟨rfl, rfl⟩, (fun h => by simp [cn0] at h), fun h => ?_, fun _ => rfl⟩
  have : (3 : Int) ≤ 0 := h
  omega
theorem Snd.start {s : Cn} {w : List Int} {n : Int} (h : Snd s w) (hn : n = 1 ∨ n = 2) : Snd (s.start n).2 w := by
  unfold Cn.start
  split
  · rename_i h0
    exact ⟨h.wl, h.win, fun _ => h.low (by omega), fun h4 => by have : 4 ≤ n := h4; omega⟩
  · exact h
theorem Rcv.start {f : Int} {ak : Bool} {w : List Int} {s : Cn} {r : List Int} {n : Int} (h : Rcv f ak w s r) (hn : n = 1 ∨ n = 2) : Rcv f ak w (s.start n).2 r := by
  unfold Cn.start
  split
  · rename_i h0
    exact ⟨h.un, h.sy, fun h3 => by have : 3 ≤ n := h3; omega, fun _ => h.st2 (by omega)⟩
  · exact h
/-! ### writing, closing, reading -/
theorem write_cases (s : Cn) (d : List Int) : (s.write d).2.2 = s ∧ (s.write d).1 = 0 ∨ ∃ m : Nat, m ≤ d.length ∧ s.asked = false ∧ (s.st = 2 ∨ s.st = 3 ∨ s.st = 4 ∨ s.st = 6) ∧ (s.write d).1 = m ∧ (s.write d).2.2 = { s with out := s.out ++ d.take m } := by
  unfold Cn.write
  split
  · exact .inl ⟨rfl, rfl⟩
  rename_i hw
  split
  · exact .inl ⟨rfl, rfl⟩
  refine .inr ⟨_, Nat.min_le_left _ _, ?_, ?_, rfl, rfl⟩
  · unfold Cn.wrt at hw
    split at hw
    · omega
    split at hw
    · omega
    · rename_i h; simpa using h
  · unfold Cn.wrt at hw
    split at hw
    · omega
    split at hw
    · omega
    split at hw
    · omega
    · omega
theorem Snd.write {s : Cn} {w d : List Int} (h : Snd s w) {m : Nat} (hm : m ≤ d.length) (hwl : w.length + m ≤ 1000000) (hst : s.st = 2 ∨ s.st = 3 ∨ s.st = 4 ∨ s.st = 6) (hak : s.asked = false) : Snd { s with out := s.out ++ d.take m } (w ++ d.take m) := by
  refine ⟨by rw [List.length_append, List.length_take]; omega, h.win, fun h3 => ?_, fun h4 h9 => ?_⟩
  · obtain ⟨e1, e2, e3, e4⟩ := h.low h3
    exact ⟨e1, by rw [e2], e3, e4⟩
  · obtain ⟨a, k, e1, e2, e3, e4, e5, e6⟩ := h.high h4 h9
    refine ⟨a, k, by rw [List.length_append]; omega, by rw [List.drop_append_of_le_length e1, e2], e3, e4, ?_, fun hf => ?_⟩
    · have : (k : Int) ≤ s.out.length + b2n (s.asked && !s.finGone) := e5
      show (k : Int) ≤ ((s.out ++ d.take m).length : Nat) + b2n (s.asked && !s.finGone)
      rw [List.length_append]
      omega
    · have := (e6 hf).2
      rw [hak] at this
      cases this
theorem close_cases (s : Cn) : s.close.2 = s ∨ ((s.st = 2 ∨ s.st = 3 ∨ s.st = 4 ∨ s.st = 6) ∧ s.asked = false ∧ s.close.2 = { s with asked := true, st := if s.st = 4 then 5 else if s.st = 6 then 7 else s.st }) := by
  unfold Cn.close
  split
  · exact .inl rfl
  · rename_i hw
    refine .inr ⟨?_, ?_, rfl⟩
    · unfold Cn.wrt at hw
      split at hw
      · omega
      split at hw
      · omega
      split at hw
      · omega
      · omega
    · unfold Cn.wrt at hw
      split at hw
      · omega
      split at hw
      · omega
      · rename_i h; simpa using h
theorem close_st (s : Cn) (h : s.st = 2 ∨ s.st = 3 ∨ s.st = 4 ∨ s.st = 6) : let t := if s.st = 4 then (5 : Int) else if s.st = 6 then 7 else s.st
    (t ≤ 3 ↔ s.st ≤ 3) ∧ (t ≤ 2 ↔ s.st ≤ 2) ∧ t ≠ 9 := by
  intro t
  show ((if s.st = 4 then (5 : Int) else if s.st = 6 then 7 else s.st) ≤ 3 ↔ s.st ≤ 3) ∧ ((if s.st = 4 then (5 : Int) else if s.st = 6 then 7 else s.st) ≤ 2 ↔ s.st ≤ 2) ∧ (if s.st = 4 then (5 : Int) else if s.st = 6 then 7 else s.st) ≠ 9
  split
  · omega
  split
  · omega
  · omega
theorem Snd.close {s : Cn} {w : List Int} (h : Snd s w) : Snd s.close.2 w := by
  rcases close_cases s with e | ⟨h1, h2, e⟩
  · rw [e]; exact h
  · rw [e]
    obtain ⟨k1, k2, k3⟩ := close_st s h1
    refine ⟨h.wl, h.win, fun h3 => ?_, fun h4 h9 => ?_⟩
    · exact h.low (k1.1 h3)
    · obtain ⟨a, k, e1, e2, e3, e4, e5, e6⟩ := h.high (by
        have h4' : 4 ≤ (if s.st = 4 then (5 : Int) else if s.st = 6 then 7 else s.st) := h4
        omega) (by omega)
      refine ⟨a, k, e1, e2, e3, e4, ?_, fun hf => ⟨(e6 hf).1, rfl⟩⟩
      show (k : Int) ≤ s.out.length + b2n (true && !s.finGone)
      rw [h2] at e5
      have := b2n_b (true && !s.finGone)
      have e7 : b2n (false && !s.finGone) = 0 := rfl
      omega
theorem Rcv.close {f : Int} {ak : Bool} {w : List Int} {s : Cn} {r : List Int} (h : Rcv f ak w s r) : Rcv f ak w s.close.2 r := by
  rcases close_cases s with e | ⟨h1, h2, e⟩
  · rw [e]; exact h
  · rw [e]
    obtain ⟨k1, k2, k3⟩ := close_st s h1
    refine ⟨h.un, h.sy, fun h3 _ => h.st ?_ (by omega), fun h3 => h.st2 (k2.1 h3)⟩
    have h3' : 3 ≤ (if s.st = 4 then (5 : Int) else if s.st = 6 then 7 else s.st) := h3
    have := k2.2
    omega
theorem Snd.same {s t : Cn} {w : List Int} (h : Snd s w) (e1 : t.first = s.first) (e2 : t.una = s.una) (e3 : t.nxt = s.nxt) (e4 : t.out = s.out) (e5 : t.asked = s.asked) (e6 : t.finGone = s.finGone) (e7 : t.st = s.st) : Snd t w := by
  refine ⟨h.wl, by rw [e2, e3]; exact h.win, fun h3 => ?_, fun h4 h9 => ?_⟩
  · rw [e1, e2, e3, e4, e6]; exact h.low (by omega)
  · rw [e1, e2, e3, e4, e5, e6]; exact h.high (by omega) (by omega)
theorem read_cases (s : Cn) (n : Int) : ∃ m : Nat, ∃ du : Bool, (s.read n).1 = s.inc.take m ∧ (s.read n).2.2 = { s with due := du, inc := s.inc.drop m } := by
  unfold Cn.read
  split
  · exact ⟨0, s.due, rfl, rfl⟩
  · exact ⟨_, _, rfl, rfl⟩
theorem Snd.read {s : Cn} {w : List Int} {n : Int} (h : Snd s w) : Snd (s.read n).2.2 w := by
  obtain ⟨m, du, _, e⟩ := read_cases s n
  rw [e]
  exact h.same rfl rfl rfl rfl rfl rfl rfl
theorem Rcv.read {f : Int} {ak : Bool} {w : List Int} {s : Cn} {r : List Int} {n : Int} (h : Rcv f ak w s r) : Rcv f ak w (s.read n).2.2 (r ++ (s.read n).1) := by
  obtain ⟨m, du, e1, e⟩ := read_cases s n
  rw [e, e1]
  have e2 : r ++ s.inc.take m ++ s.inc.drop m = r ++ s.inc := by rw [List.append_assoc, List.take_append_drop]
  refine ⟨fun k => ?_, fun k => ?_, h.st, h.st2⟩
  · show r ++ s.inc.take m ++ s.inc.drop m = [] ∧ _
    rw [e2]; exact h.un k
  · show ∃ n : Nat, n ≤ w.length ∧ r ++ s.inc.take m ++ s.inc.drop m = w.take n ∧ _
    rw [e2]; exact h.sy k
/-! ### acknowledging -/
theorem acc_j {s : Cn} {num : Int} {k : Nat} (hn : 0 ≤ num ∧ num ≤ 4294967295) (hk : k ≤ 2000000) (hnx : s.nxt = (s.una + k) % 4294967296) (h1 : before num s.una = false) (h2 : before s.nxt num = false) : ∃ j : Nat, j ≤ k ∧ num = (s.una + j) % 4294967296 ∧ ((num - s.una) % 4294967296 = j) := by
  rw [before_eq] at h1 h2
  have h1 := of_decide_eq_false h1
  have h2 := of_decide_eq_false h2
  rw [hnx] at h2
  refine ⟨((num - s.una) % 4294967296).toNat, ?_, ?_, ?_⟩
  · omega
  · omega
  · omega
theorem Snd.acked {s : Cn} {w : List Int} {num now : Int} (h : Snd s w) (h4 : 4 ≤ s.st) (h9 : s.st ≠ 9) (hn : 0 ≤ num ∧ num ≤ 4294967295) (hf : 0 ≤ s.first ∧ s.first ≤ 4294967295) (h1 : before num s.una = false) (h2 : before s.nxt num = false) : Snd (s.acked num now) w := by
  obtain ⟨a, k, e1, e2, e3, e4, e5, e6⟩ := h.high h4 h9
  have hwl := h.wl
  have hol : s.out.length = w.length - a := by rw [e2, List.length_drop]
  have hfb := b2n_b s.finGone
  have hab := b2n_b (s.asked && !s.finGone)
  obtain ⟨j, hj, ej, ej2⟩ := acc_j hn (by omega) e4 h1 h2
  have hne : s.una ≠ s.first := by rw [e3]; omega
  have hak : s.ackN num = j := by
    unfold Cn.ackN
    rw [if_neg hne, wrap_u32]
    exact ej2
  have hst : (s.acked num now).st = if s.ackF num = true ∧ s.st = 7 then 8 else s.st := rfl
  have hfl : s.finGone = true → s.out.length = 0 ∧ j = 0 := fun hf => by
    have h3 := (e6 hf).1
    have h5 : b2n (s.asked && !s.finGone) = 0 := by rw [hf]; simp [b2n]
    omega
  have hF : s.ackF num = (s.finGone || decide ((s.out.length : Int) < j)) := by unfold Cn.ackF; rw [hak]
  have ho : (s.acked num now).out = s.out.drop (min (j : Int) s.out.length).toNat := by
    show s.out.drop (min (s.ackN num) s.out.length).toNat = _
    rw [hak]
  refine ⟨hwl, ?_, fun h3 => ?_, fun _ _ => ?_⟩
  · show (s.nxt - num) % 4294967296 ≤ 4097
    have := h.win
    rw [e4] at this ⊢
    rw [ej]
    omega
  · rw [hst] at h3
    split at h3 <;> omega
  · by_cases hle : (s.out.length : Int) < j
    · have hfg : s.finGone = false := by
        cases hc : s.finGone with
        | false => rfl
        | true => have := hfl hc; omega
      have hask : s.asked = true := by
        cases hc : s.asked with
        | true => rfl
        | false =>
          have h5 : b2n (s.asked && !s.finGone) = 0 := by rw [hc]; simp [b2n]
          omega
      have hF2 : s.ackF num = true := by rw [hF, decide_eq_true hle, Bool.or_true]
      have hab1 : b2n (s.asked && !s.finGone) = 1 := by rw [hask, hfg]; simp [b2n]
      refine ⟨w.length, 0, Nat.le_refl _, ?_, ?_, ?_, ?_, fun _ => ⟨rfl, hask⟩⟩
      · rw [ho, List.drop_of_length_le (by omega), List.drop_of_length_le (Nat.le_refl _)]
      · show num = (s.first + 1 + w.length + b2n (s.ackF num)) % 4294967296
        rw [hF2, ej, e3, hfg]
        have e7 : b2n true = 1 := rfl
        have e8 : b2n false = 0 := rfl
        rw [e7, e8]
        omega
      · show s.nxt = (num + (0 : Nat)) % 4294967296
        rw [e4, ej]
        omega
      · have := b2n_b ((s.acked num now).asked && !(s.acked num now).finGone)
        show ((0 : Nat) : Int) ≤ _
        omega
    · have hF2 : s.ackF num = s.finGone := by rw [hF, decide_eq_false hle, Bool.or_false]
      have hmin : (min (j : Int) s.out.length).toNat = j := by omega
      refine ⟨a + j, k - j, by omega, ?_, ?_, ?_, ?_, fun hg => ?_⟩
      · rw [ho, hmin, e2, List.drop_drop]
      · show num = (s.first + 1 + (a + j : Nat) + b2n (s.ackF num)) % 4294967296
        rw [hF2, ej, e3]
        omega
      · show s.nxt = (num + (k - j : Nat)) % 4294967296
        rw [e4, ej]
        omega
      · have e7 : (s.acked num now).out.length = s.out.length - j := by rw [ho, hmin, List.length_drop]
        show ((k - j : Nat) : Int) ≤ (s.acked num now).out.length + b2n (s.asked && !s.ackF num)
        rw [hF2, e7]
        omega
      · have hg' : s.ackF num = true := hg
        rw [hF2] at hg'
        have h3 := hfl hg'
        exact ⟨by have := (e6 hg').1; omega, (e6 hg').2⟩
theorem Snd.hand {s : Cn} {w : List Int} {num now : Int} (h : Snd s w) (h3 : s.st ≤ 3) (hf : 0 ≤ s.first ∧ s.first ≤ 4294967295) (hn : num = (s.first + 1) % 4294967296) (hx : s.nxt = (s.first + 1) % 4294967296) : Snd (s.estab.acked num now) w := by
  obtain ⟨e1, e2, e3, e4⟩ := h.low h3
  have hak : s.estab.ackN num = 0 := by
    unfold Cn.ackN
    show (if s.una = s.first then IntKind.u32.wrap (num - s.una) - 1 else _) = _
    rw [if_pos e1, wrap_u32, e1, hn]
    omega
  have hF : s.estab.ackF num = false := by
    unfold Cn.ackF
    rw [hak]
    show (s.finGone || _) = false
    rw [e4, Bool.false_or, decide_eq_false (by omega)]
  have hst : (s.estab.acked num now).st = s.estab.st := by
    show (if s.estab.ackF num = true ∧ s.estab.st = 7 then (8 : Int) else s.estab.st) = _
    rw [hF, if_neg (by simp)]
  have h45 := estab_st s
  refine ⟨h.wl, ?_, fun k => by omega, fun _ _ => ⟨0, 0, Nat.zero_le _, ?_, ?_, ?_, ?_, fun hg => ?_⟩⟩
  · show (s.nxt - num) % 4294967296 ≤ 4097
    rw [hx, hn]
    omega
  · show s.out.drop (min (s.estab.ackN num) s.out.length).toNat = w.drop 0
    rw [hak, e2]
    have : (min (0 : Int) w.length).toNat = 0 := by omega
    rw [this]
  · show num = (s.first + 1 + (0 : Nat) + b2n (s.estab.ackF num)) % 4294967296
    rw [hF, hn]
    have e8 : b2n false = 0 := rfl
    rw [e8]
    omega
  · show s.nxt = (num + (0 : Nat)) % 4294967296
    rw [hx, hn]
    omega
  · have := b2n_b ((s.estab.acked num now).asked && !(s.estab.acked num now).finGone)
    show ((0 : Nat) : Int) ≤ _
    omega
  · have hg' : s.estab.ackF num = true := hg
    rw [hF] at hg'
    cases hg'
end Go.E.St
/- Two connections that talk, in plain Lean: what comes in. -/
namespace Go.E.St
open Go Go.E Go.Proofs.Ytamcfhhcmjagnaa Go.Proofs
set_option linter.unusedVariables false
set_option linter.unusedSimpArgs false
set_option maxRecDepth 100000
theorem Snd.st9 {s : Cn} {w : List Int} (h : Snd s w) : Snd { s with st := 9 } w :=
  ⟨h.wl, h.win, fun k => by have : (9 : Int) ≤ 3 := k; omega, fun _ k => absurd rfl k⟩
theorem Snd.greet {s : Cn} {w : List Int} {g : Sg} (h : Snd s w) (h3 : s.st ≤ 3) : Snd (s.greeted g) w :=
  ⟨h.wl, h.win, fun _ => h.low h3, fun k => by have : (4 : Int) ≤ 3 := k; omega⟩
theorem Snd.again {s : Cn} {w : List Int} {g : Sg} (h : Snd s w) (h3 : s.st ≤ 3) : Snd { s.greeted g with nxt := s.first, run := false } w := by
  obtain ⟨e1, e2, e3, e4⟩ := h.low h3
  refine ⟨h.wl, ?_, fun _ => ⟨e1, e2, .inl rfl, e4⟩, fun k => by have : (4 : Int) ≤ 3 := k; omega⟩
  show (s.first - s.una) % 4294967296 ≤ 4097
  rw [e1]
  omega
theorem Snd.due {s : Cn} {w : List Int} {b : Bool} (h : Snd s w) : Snd { s with due := b } w := h.same rfl rfl rfl rfl rfl rfl rfl
theorem Snd.win_ {s : Cn} {w : List Int} {x : Int} (h : Snd s w) : Snd { s with window := x } w := h.same rfl rfl rfl rfl rfl rfl rfl
theorem finSt_hi (s : Cn) (h : 4 ≤ s.st ∧ s.st ≠ 9) : 4 ≤ s.finSt ∧ s.finSt ≠ 9 := by
  unfold Cn.finSt
  split
  · omega
  split
  · split <;> omega
  · exact h
theorem Snd.rcv_ {s t : Cn} {w : List Int} (h : Snd s w) (e1 : t.first = s.first) (e2 : t.una = s.una) (e3 : t.nxt = s.nxt) (e4 : t.out = s.out) (e5 : t.asked = s.asked) (e6 : t.finGone = s.finGone) (hs : 4 ≤ s.st ∧ s.st ≠ 9) (ht : 4 ≤ t.st ∧ t.st ≠ 9) : Snd t w := by
  refine ⟨h.wl, by rw [e2, e3]; exact h.win, fun h3 => by omega, fun h4 h9 => ?_⟩
  rw [e1, e2, e3, e4, e5, e6]; exact h.high hs.1 hs.2
theorem Snd.take {s : Cn} {w : List Int} {g : Sg} (h : Snd s w) (hs : 4 ≤ s.st ∧ s.st ≠ 9) : Snd (s.take g) w := by
  unfold Cn.take
  split
  · exact h
  split
  · exact h.rcv_ rfl rfl rfl rfl rfl rfl hs hs
  · exact h.rcv_ rfl rfl rfl rfl rfl rfl hs (finSt_hi (s.tMid g) hs)
theorem accepts_b {s : Cn} {g : Sg} (h : s.accepts g = true) : before g.num s.una = false ∧ before s.nxt g.num = false := by
  unfold Cn.accepts at h
  simp at h
  exact ⟨h.1.2, h.2⟩
theorem Snd.segment {s : Cn} {w : List Int} {g : Sg} {now : Int} (h : Snd s w) (hf : 0 ≤ s.first ∧ s.first ≤ 4294967295) (hg : SgOk g) (hs : 3 ≤ s.st ∧ s.st ≠ 9) : Snd (s.segment g now) w := by
  unfold Cn.segment
  split
  · split
    · exact h.st9
    · exact h
  · have hA : Snd (s.segA g now) w ∧ 3 ≤ (s.segA g now).st ∧ (s.segA g now).st ≠ 9 := by
      unfold Cn.segA
      split
      · rename_i ha
        obtain ⟨h1, h2⟩ := accepts_b ha
        by_cases h3 : s.st = 3
        · obtain ⟨e1, e2, e3, e4⟩ := h.low (by omega)
          by_cases hn : g.num = s.first
          · have k1 : s.seg1 g = s := by unfold Cn.seg1; rw [if_neg (fun k => k.2 hn)]
            have k2 : s.seg2 g now = s := by unfold Cn.seg2; rw [if_neg (fun k => k (by rw [hn, e1]))]
            rw [k1, k2]
            exact ⟨h.win_, hs⟩
          · have k1 : s.seg1 g = s.estab := by unfold Cn.seg1; rw [if_pos ⟨h3, hn⟩]
            have k2 : s.estab.seg2 g now = s.estab.acked g.num now := by unfold Cn.seg2; rw [if_pos (fun k => hn (by rw [k]; exact e1))]
            rw [k1, k2]
            have hx : s.nxt = (s.first + 1) % 4294967296 ∧ g.num = (s.first + 1) % 4294967296 := by
              rcases e3 with e3 | e3
              · obtain ⟨j, hj, ej, _⟩ := acc_j (s := s) (k := 0) hg.num (by omega) (by rw [e3, e1]; omega) h1 h2
                rw [e1] at ej
                omega
              · obtain ⟨j, hj, ej, _⟩ := acc_j (s := s) (k := 1) hg.num (by omega) (by rw [e3, e1]; rfl) h1 h2
                rw [e1] at ej
                refine ⟨e3, ?_⟩
                rcases Nat.eq_zero_or_pos j with h0 | h0
                · omega
                · have : j = 1 := by omega
                  rw [ej, this]; rfl
            have h5 := estab_st s
            have hst : (s.estab.acked g.num now).st = if s.estab.ackF g.num = true ∧ s.estab.st = 7 then 8 else s.estab.st := rfl
            refine ⟨(h.hand (by omega) hf hx.2 hx.1).win_, ?_⟩
            show 3 ≤ (s.estab.acked g.num now).st ∧ (s.estab.acked g.num now).st ≠ 9
            rw [hst]
            split <;> omega
        · have k1 : s.seg1 g = s := by unfold Cn.seg1; rw [if_neg (fun k => h3 k.1)]
          rw [k1]
          unfold Cn.seg2
          split
          · refine ⟨(h.acked (by omega) hs.2 hg.num hf h1 h2).win_, ?_⟩
            show 3 ≤ (s.acked g.num now).st ∧ (s.acked g.num now).st ≠ 9
            rw [acked_st]
            split <;> omega
          · exact ⟨h.win_, hs⟩
      · exact ⟨h, hs⟩
    obtain ⟨hA, hA2⟩ := hA
    unfold Cn.segB
    split
    · exact hA
    split
    · rename_i h38
      exact (hA.due).take ⟨by show 4 ≤ (s.segA g now).st; omega, hA2.2⟩
    · exact hA.due
theorem Snd.input {s : Cn} {w : List Int} {g : Sg} {now : Int} (h : Snd s w) (ho : Ok s) (hnb : (0 ≤ g.seq ∧ g.seq ≤ 4294967295) ∧ 0 ≤ g.num ∧ g.num ≤ 4294967295) : Snd (s.input g now) w := by
  unfold Cn.input
  split
  · exact h
  rename_i he
  obtain ⟨hnow, hv, hck, h9, h0⟩ := inputE_0 (show s.inputE g now = 0 by omega)
  have hg := sgOk_of hv hnb
  have hst := ho.st
  have hf := ho.first
  have hc : Snd { s with clock := now } w := h.same rfl rfl rfl rfl rfl rfl rfl
  obtain ⟨c, hcc⟩ : ∃ c : Cn, c = { s with clock := now } := ⟨_, rfl⟩
  have hcs : c.st = s.st := by rw [hcc]
  have hcf : c.first = s.first := by rw [hcc]
  rw [← hcc] at hc ⊢
  rw [← hcf] at hf
  unfold Cn.inp
  split
  · split
    · exact hc.greet (by omega)
    · exact hc
  split
  · unfold Cn.answered
    split
    · exact hc.st9
    split
    · rename_i hm
      have hmi := hm.2
      unfold Cn.mine at hmi
      simp at hmi
      obtain ⟨e1, e2, e3, e4⟩ := hc.low (by omega)
      have hx : c.nxt = (c.first + 1) % 4294967296 := by
        rcases e3 with e3 | e3
        · exact absurd e3 hmi.2
        · exact e3
      exact Snd.hand (s := { c.greeted g with due := true }) (hc.greet (by omega)).due (by show (3 : Int) ≤ 3; decide) hf (by rw [hmi.1, wrap_u32]; rfl) hx
    split
    · exact hc.again (by omega)
    · exact hc
  split
  · exact hc.due
  · exact hc.segment hf hg (by omega)
/-! ### the receiver -/
theorem Rcv.keep {f : Int} {ak : Bool} {w : List Int} {s t : Cn} {r : List Int} (h : Rcv f ak w s r) (e1 : t.synced = s.synced) (e2 : t.inc = s.inc) (e3 : t.ended = s.ended) (e4 : t.rcv = s.rcv) (h3 : 3 ≤ t.st → t.st ≠ 9 → 3 ≤ s.st ∧ s.st ≠ 9) (h2 : t.st ≤ 2 → s.st ≤ 2) : Rcv f ak w t r := by
  refine ⟨?_, ?_, fun a b => ?_, fun a => ?_⟩
  · rw [e1, e2, e3]; exact h.un
  · rw [e1, e2, e3, e4]; exact h.sy
  · rw [e1]; exact h.st (h3 a b).1 (h3 a b).2
  · rw [e1]; exact h.st2 (h2 a)
theorem Rcv.greet {f : Int} {ak : Bool} {w : List Int} {s t : Cn} {r : List Int} {g : Sg} (h : Rcv f ak w s r) (hf : 0 ≤ f ∧ f ≤ 4294967295) (h2 : s.st ≤ 2) (hg : SegOk f ak w g) (hs : has g.fl 1 = true) (e1 : t.synced = true) (e2 : t.inc = s.inc) (e3 : t.ended = s.ended) (e4 : t.rcv = IntKind.u32.wrap (g.seq + 1)) (h3 : 3 ≤ t.st) : Rcv f ak w t r := by
  obtain ⟨k1, k2⟩ := h.un (h.st2 h2)
  refine ⟨(fun k => by rw [e1] at k; cases k), fun _ => ⟨0, Nat.zero_le _, ?_, ?_, fun k => ?_⟩, fun _ _ => e1, fun k => by omega⟩
  · rw [e2, k1, List.take_zero]
  · rw [e4, e3, k2, (hg.syn hs).1, wrap_u32]
    have e8 : b2n false = 0 := rfl
    rw [e8]
    omega
  · rw [e3, k2] at k; cases k
theorem Rcv.take {f : Int} {ak : Bool} {w : List Int} {s : Cn} {r : List Int} {g : Sg} (h : Rcv f ak w s r) (hf : 0 ≤ f ∧ f ≤ 4294967295) (hwl : w.length ≤ 1000000) (h4 : 4 ≤ s.st ∧ s.st ≠ 9) (hg : SegOk f ak w g) (hgo : SgOk g) : Rcv f ak w (s.take g) r := by
  have hsy := h.st (by omega) h4.2
  obtain ⟨n, n1, n2, n3, n4⟩ := h.sy hsy
  unfold Cn.take
  split
  · exact h
  rename_i hno
  have hen : s.ended = false := by
    cases hc : s.ended with
    | false => rfl
    | true => exact absurd (.inl hc) hno
  have hbf : before s.rcv g.seq = false := by
    cases hc : before s.rcv g.seq with
    | false => rfl
    | true => exact absurd (.inr (.inl hc)) hno
  have hln : s.skip0 g < lenS g := by
    have : ¬ lenS g ≤ s.skip0 g := fun k => hno (.inr (.inr k))
    omega
  rw [hen] at n3
  have e8 : b2n false = 0 := rfl
  rw [e8] at n3
  have hsk : s.skip0 g = (s.rcv - g.seq) % 4294967296 := by unfold Cn.skip0; rw [wrap_u32]
  rw [before_eq] at hbf
  replace hbf := of_decide_eq_false hbf
  have h1 : has g.fl 1 = false := by
    cases hc : has g.fl 1 with
    | false => rfl
    | true =>
      obtain ⟨k1, k2, k3⟩ := hg.syn hc
      have hl : lenS g = 1 := by
        unfold lenS
        rw [hc, k2, k3]
        rfl
      rw [hsk, n3, k1] at hln
      omega
  have hb4 := b2n_b (has g.fl 4)
  have hl : lenS g = g.data.length + b2n (has g.fl 4) := by
    unfold lenS
    rw [h1, e8]
    omega
  have hne : g.data ≠ [] ∨ has g.fl 4 = true := by
    cases hc : has g.fl 4 with
    | true => exact .inr rfl
    | false =>
      refine .inl fun k => ?_
      rw [hl, hc, k, e8, hsk] at hln
      simp at hln
      omega
  obtain ⟨o, o1, o2, o3, o4⟩ := hg.dat h1 hne
  have hdl := hgo.data
  rw [n3, o1] at hbf
  rw [hsk, n3, o1] at hln
  have hno2 : o ≤ n := by omega
  have hsk2 : s.skip0 g = ((n - o : Nat) : Int) := by rw [hsk, n3, o1]; omega
  have hle : n - o ≤ g.data.length := by
    rw [hl] at hln
    omega
  have htr : s.tRcv g = s.rcv := by unfold Cn.tRcv; rw [h1, if_neg (by simp)]
  have hts : s.tSkip g = ((n - o : Nat) : Int) := by unfold Cn.tSkip; rw [h1, if_neg (by simp)]; exact hsk2
  have htd : s.tDat g = (w.drop n).take (o + g.data.length - n) := by
    unfold Cn.tDat
    rw [hts]
    have e1 : (min ((n - o : Nat) : Int) g.data.length).toNat = n - o := by omega
    rw [e1]
    conv => lhs; rw [o3]
    rw [List.drop_take, List.drop_drop]
    congr 1
    · omega
    · congr 1
      omega
  have htl : (s.tDat g).length = o + g.data.length - n := by rw [htd, List.length_take, List.length_drop]; omega
  obtain ⟨m, hm⟩ : ∃ m, m = s.tN g := ⟨_, rfl⟩
  have hml : m ≤ o + g.data.length - n := by rw [hm, ← htl]; unfold Cn.tN; omega
  have hin : r ++ (s.inc ++ (s.tDat g).take m) = w.take (n + m) := by
    rw [← List.append_assoc, n2, htd, List.take_take, Nat.min_eq_left hml, ← List.take_add]
  have hmid : Rcv f ak w (s.tMid g) r := by
    refine ⟨fun k => ?_, fun _ => ⟨n + m, by omega, ?_, ?_, fun k => ?_⟩, fun _ _ => hsy, fun k => by have : s.st ≤ 2 := k; omega⟩
    · have : s.synced = false := k
      rw [hsy] at this; cases this
    · show r ++ (s.inc ++ (s.tDat g).take (s.tN g)) = _
      rw [← hm]; exact hin
    · show IntKind.u32.wrap (s.tRcv g + s.tN g) = (f + 1 + (n + m : Nat) + b2n s.ended) % 4294967296
      rw [htr, ← hm, hen, e8, wrap_u32, n3]
      omega
    · have : s.ended = true := k
      rw [hen] at this; cases this
  split
  · exact hmid
  · rename_i hfin
    have h4f : has g.fl 4 = true := by
      cases hc : has g.fl 4 with
      | true => rfl
      | false => exact absurd (.inr hc) hfin
    have hmf : m = o + g.data.length - n := by
      have : ¬ s.tN g < (s.tDat g).length := fun k => hfin (.inl k)
      rw [← hm, htl] at this
      omega
    obtain ⟨k1, k2⟩ := o4 h4f
    have hfs := finSt_hi (s.tMid g) h4
    refine ⟨fun k => ?_, fun _ => ⟨n + m, by omega, ?_, ?_, fun _ => ⟨by omega, k1⟩⟩, fun _ _ => hsy, fun k => by have : (s.tMid g).finSt ≤ 2 := k; omega⟩
    · have : s.synced = false := k
      rw [hsy] at this; cases this
    · show r ++ (s.inc ++ (s.tDat g).take (s.tN g)) = _
      rw [← hm]; exact hin
    · show IntKind.u32.wrap (IntKind.u32.wrap (s.tRcv g + s.tN g) + 1) = (f + 1 + (n + m : Nat) + b2n true) % 4294967296
      have e9 : b2n true = 1 := rfl
      rw [htr, ← hm, e9, wrap_u32, wrap_u32, n3]
      omega
theorem Rcv.segment {f : Int} {ak : Bool} {w : List Int} {s : Cn} {r : List Int} {g : Sg} {now : Int} (h : Rcv f ak w s r) (hf : 0 ≤ f ∧ f ≤ 4294967295) (hwl : w.length ≤ 1000000) (hs : 3 ≤ s.st ∧ s.st ≠ 9) (hg : SegOk f ak w g) (hgo : SgOk g) : Rcv f ak w (s.segment g now) r := by
  unfold Cn.segment
  split
  · split
    · exact h.keep rfl rfl rfl rfl (fun _ k => absurd rfl k) (fun k => by have : (9 : Int) ≤ 2 := k; omega)
    · exact h
  · have hA : Rcv f ak w (s.segA g now) r ∧ 3 ≤ (s.segA g now).st ∧ (s.segA g now).st ≠ 9 := by
      unfold Cn.segA
      split
      · have k1 : Rcv f ak w (s.seg1 g) r ∧ 3 ≤ (s.seg1 g).st ∧ (s.seg1 g).st ≠ 9 := by
          have h5 := estab_st s
          unfold Cn.seg1
          split
          · exact ⟨h.keep rfl rfl rfl rfl (fun _ _ => hs) (fun k => by omega), by omega⟩
          · exact ⟨h, hs⟩
        obtain ⟨k1, k2⟩ := k1
        have k3 : Rcv f ak w ((s.seg1 g).seg2 g now) r ∧ 3 ≤ ((s.seg1 g).seg2 g now).st ∧ ((s.seg1 g).seg2 g now).st ≠ 9 := by
          have h6 : 3 ≤ ((s.seg1 g).acked g.num now).st ∧ ((s.seg1 g).acked g.num now).st ≠ 9 := by
            rw [acked_st]
            split <;> omega
          unfold Cn.seg2
          split
          · exact ⟨k1.keep rfl rfl rfl rfl (fun _ _ => k2) (fun k => by omega), h6⟩
          · exact ⟨k1, k2⟩
        obtain ⟨k3, k4⟩ := k3
        exact ⟨k3.keep rfl rfl rfl rfl (fun _ _ => k4) (fun k => k), k4⟩
      · exact ⟨h, hs⟩
    obtain ⟨hA, hA2⟩ := hA
    have hD : Rcv f ak w { s.segA g now with due := true } r := hA.keep rfl rfl rfl rfl (fun _ _ => hA2) (fun k => k)
    unfold Cn.segB
    split
    · exact hA
    split
    · rename_i h38
      exact hD.take hf hwl ⟨by show 4 ≤ (s.segA g now).st; omega, hA2.2⟩ hg hgo
    · exact hD
theorem Rcv.input {f : Int} {ak : Bool} {w : List Int} {s : Cn} {r : List Int} {g : Sg} {now : Int} (h : Rcv f ak w s r) (hf : 0 ≤ f ∧ f ≤ 4294967295) (hwl : w.length ≤ 1000000) (ho : Ok s) (hg : SegOk f ak w g) (hnb : (0 ≤ g.seq ∧ g.seq ≤ 4294967295) ∧ 0 ≤ g.num ∧ g.num ≤ 4294967295) : Rcv f ak w (s.input g now) r := by
  unfold Cn.input
  split
  · exact h
  rename_i he
  obtain ⟨hnow, hv, hck, h9, h0⟩ := inputE_0 (show s.inputE g now = 0 by omega)
  have hgo := sgOk_of hv hnb
  have hst := ho.st
  have hc : Rcv f ak w { s with clock := now } r := h.keep rfl rfl rfl rfl (fun a b => ⟨a, b⟩) (fun k => k)
  obtain ⟨c, hcc⟩ : ∃ c : Cn, c = { s with clock := now } := ⟨_, rfl⟩
  have hcs : c.st = s.st := by rw [hcc]
  rw [← hcc] at hc ⊢
  unfold Cn.inp
  split
  · split
    · rename_i h1
      exact hc.greet hf (by omega) hg (by rw [h1]; decide) rfl rfl rfl rfl (by show (3 : Int) ≤ 3; decide)
    · exact hc
  split
  · unfold Cn.answered
    split
    · exact hc.keep rfl rfl rfl rfl (fun _ k => absurd rfl k) (fun k => by have : (9 : Int) ≤ 2 := k; omega)
    split
    · rename_i h3
      refine hc.greet hf (by omega) hg (by rw [h3.1]; decide) rfl rfl rfl rfl ?_
      have h5 := estab_st ({ c.greeted g with due := true } : Cn)
      show 3 ≤ (({ c.greeted g with due := true } : Cn).estab.acked g.num now).st
      rw [acked_st]
      split <;> omega
    split
    · rename_i h1
      exact hc.greet hf (by omega) hg (by rw [h1]; decide) rfl rfl rfl rfl (by show (3 : Int) ≤ 3; decide)
    · exact hc
  split
  · exact hc.keep rfl rfl rfl rfl (fun a b => ⟨a, b⟩) (fun k => k)
  · exact hc.segment hf hwl (by omega) hg hgo
end Go.E.St
/- Two connections that talk, in plain Lean: what goes out. -/
namespace Go.E.St
open Go Go.E Go.Proofs.Ytamcfhhcmjagnaa Go.Proofs
set_option linter.unusedVariables false
set_option linter.unusedSimpArgs false
set_option maxRecDepth 100000
def DatOk (s : Cn) (g : Sg) (o n : Nat) : Prop := g.fl = 2 ∧ g.seq = (s.una + o) % 4294967296 ∧ g.data = (s.out.drop o).take n ∧ o + n ≤ s.out.length
theorem dl_spec (s : Cn) (lim : Int) (hs : 1 ≤ s.size) : ∀ (f : Nat) (sent nx : Int), 0 ≤ sent → nx = (s.una + sent) % 4294967296 →
    (∀ g ∈ (s.dl lim f sent nx).1, ∃ o n : Nat, DatOk s g o n) ∧ (s.dl lim f sent nx).2.2 = (s.una + (s.dl lim f sent nx).2.1) % 4294967296 ∧ sent ≤ (s.dl lim f sent nx).2.1 ∧ (s.dl lim f sent nx).2.1 ≤ max sent s.out.length ∧
    ((s.dl lim f sent nx).1 = [] ∧ (s.dl lim f sent nx).2.1 = sent ∨ ∃ l g, (s.dl lim f sent nx).1 = l ++ [g] ∧ ∃ o n : Nat, DatOk s g o n ∧ ((o + n : Nat) : Int) = (s.dl lim f sent nx).2.1)
  | 0, sent, nx, h0, hx => ⟨fun g h => by simp [Cn.dl] at h, hx, Int.le_refl _, by show sent ≤ _; omega, .inl ⟨rfl, rfl⟩⟩
  | f + 1, sent, nx, h0, hx => by
    by_cases hc : sent < s.out.length ∧ sent < lim
    · obtain ⟨n, hn⟩ : ∃ n : Nat, (n : Int) = s.dn lim sent := ⟨(s.dn lim sent).toNat, by unfold Cn.dn; omega⟩
      have hnd : s.dn lim sent = min (min s.size (s.out.length - sent)) (lim - sent) := rfl
      obtain ⟨o, rfl⟩ : ∃ o : Nat, sent = o := ⟨sent.toNat, by omega⟩
      have hx2 : IntKind.u32.wrap (nx + n) = (s.una + ((o : Int) + n)) % 4294967296 := by rw [wrap_u32, hx]; omega
      obtain ⟨i1, i2, i3, i4, i5⟩ := dl_spec s lim hs f ((o : Int) + n) (IntKind.u32.wrap (nx + n)) (by omega) hx2
      have e : s.dl lim (f + 1) o nx = (s.sgm 2 nx ((s.out.drop o).take n) :: (s.dl lim f ((o : Int) + n) (IntKind.u32.wrap (nx + n))).1, (s.dl lim f ((o : Int) + n) (IntKind.u32.wrap (nx + n))).2) := by
        rw [Cn.dl, if_pos hc, ← hn, Int.toNat_natCast, Int.toNat_natCast]
      have hd : DatOk s (s.sgm 2 nx ((s.out.drop o).take n)) o n := ⟨rfl, hx, rfl, by omega⟩
      rw [e]
      refine ⟨fun g hg => ?_, i2, (by show (o : Int) ≤ (s.dl lim f ((o : Int) + n) (IntKind.u32.wrap (nx + n))).2.1; omega), ?_, ?_⟩
      · rcases List.mem_cons.1 hg with rfl | hg
        · exact ⟨o, n, hd⟩
        · exact i1 g hg
      · show (s.dl lim f ((o : Int) + n) (IntKind.u32.wrap (nx + n))).2.1 ≤ _
        omega
      · right
        rcases i5 with ⟨k1, k2⟩ | ⟨l, g, k1, o', n', k2, k3⟩
        · exact ⟨[], s.sgm 2 nx ((s.out.drop o).take n), by show _ :: (s.dl lim f _ _).1 = _; rw [k1]; rfl, o, n, hd, by show _ = (s.dl lim f _ _).2.1; rw [k2]; omega⟩
        · exact ⟨s.sgm 2 nx ((s.out.drop o).take n) :: l, g, by show _ :: (s.dl lim f _ _).1 = _; rw [k1]; rfl, o', n', k2, k3⟩
    · rw [dl_stop s lim (f + 1) hc]
      exact ⟨fun g h => by simp at h, hx, Int.le_refl _, by show sent ≤ _; omega, .inl ⟨rfl, rfl⟩⟩
theorem dr_spec {s : Cn} (ho : Ok s) : (∀ g ∈ s.dr.1, ∃ o n : Nat, DatOk s g o n) ∧ s.dr.2.2 = (s.una + s.dr.2.1) % 4294967296 ∧ s.sent0 ≤ s.dr.2.1 ∧ s.dr.2.1 ≤ max s.sent0 s.out.length ∧
    (s.dr.1 = [] ∧ s.dr.2.1 = s.sent0 ∨ ∃ l g, s.dr.1 = l ++ [g] ∧ ∃ o n : Nat, DatOk s g o n ∧ ((o + n : Nat) : Int) = s.dr.2.1) := by
  have hn := ho.nxt
  have hu := ho.una
  have h0 : s.sent0 = (s.nxt - s.una) % 4294967296 := by unfold Cn.sent0; rw [wrap_u32]
  exact dl_spec s s.dlim ho.size.1 s.out.length s.sent0 s.nxt (by omega) (by rw [h0]; omega)
theorem DatOk.seg {s : Cn} {w : List Int} {g : Sg} {o n : Nat} {ak : Bool} {fl : Int} (h : DatOk s g o n) (hs : Snd s w) (h4 : 4 ≤ s.st) (h9 : s.st ≠ 9) (hfl : fl = 2 ∨ fl = 6 ∧ ak = true ∧ s.finGone = false ∧ o + n = s.out.length) : SegOk s.first ak w { g with fl := fl } := by
  obtain ⟨a, k, e1, e2, e3, e4, e5, e6⟩ := hs.high h4 h9
  obtain ⟨d1, d2, d3, d4⟩ := h
  have hol : s.out.length = w.length - a := by rw [e2, List.length_drop]
  have hgl : g.data.length = n := by rw [d3, List.length_take, List.length_drop]; omega
  have h1 : has fl 1 = false := by rcases hfl with rfl | ⟨rfl, _⟩ <;> decide
  refine ⟨fun k => ?_, fun _ hne => ⟨a + o, ?_, ?_, ?_, fun k4 => ?_⟩⟩
  · have k' : has fl 1 = true := k
    rw [h1] at k'; cases k'
  · have hfg : s.finGone = false := by
      cases hc : s.finGone with
      | false => rfl
      | true =>
        have := (e6 hc).1
        rcases hfl with rfl | ⟨rfl, _, hf, _⟩
        · rcases hne with hne | hne
          · exact absurd (List.eq_nil_of_length_eq_zero (show g.data.length = 0 by omega)) hne
          · have hne' : has 2 4 = true := hne
            exact absurd hne' (by decide)
        · rw [hc] at hf; cases hf
    show g.seq = _
    have e8 : b2n false = 0 := rfl
    rw [d2, e3, hfg, e8]
    omega
  · show a + o + g.data.length ≤ w.length
    omega
  · show g.data = (w.drop (a + o)).take g.data.length
    rw [hgl, d3, e2, List.drop_drop]
  · rcases hfl with rfl | ⟨rfl, hak, _, hon⟩
    · have k4' : has 2 4 = true := k4
      exact absurd k4' (by decide)
    · exact ⟨hak, by show a + o + g.data.length = w.length; omega⟩
theorem sgm_empty {s : Cn} {f : Int} {ak : Bool} {w : List Int} {n : Int} : SegOk f ak w (s.sgm 2 n []) := by
  refine ⟨fun k => ?_, fun _ hne => ?_⟩
  · have k' : has 2 1 = true := k
    exact absurd k' (by decide)
  · rcases hne with hne | hne
    · exact absurd rfl hne
    · have k' : has 2 4 = true := hne
      exact absurd k' (by decide)
theorem dat_seg {s : Cn} {w : List Int} (ho : Ok s) (hs : Snd s w) (h4 : 4 ≤ s.st) (h9 : s.st ≠ 9) : ∀ g ∈ s.dat.1, SegOk s.first s.asked w g := by
  obtain ⟨r1, r2, r3, r4, r5⟩ := dr_spec ho
  have hsame : ∀ g ∈ s.dr.1, SegOk s.first s.asked w g := fun g hg => by
    obtain ⟨o, n, h⟩ := r1 g hg
    have h2 := h.1
    have := h.seg (ak := s.asked) (fl := 2) hs h4 h9 (.inl rfl)
    rw [show ({ g with fl := 2 } : Sg) = g by cases g; simp at h2; rw [h2]] at this
    exact this
  obtain ⟨a, k, e1, e2, e3, e4, e5, e6⟩ := hs.high h4 h9
  unfold Cn.dat
  split
  · rename_i hfin
    unfold Cn.finNow at hfin
    simp at hfin
    obtain ⟨f1, f2, f3, f4⟩ := hfin
    intro g hg
    rcases r5 with ⟨k1, k2⟩ | ⟨l, g', k1, o, n, k2, k3⟩
    · rw [k1] at hg
      have hg' : g = s.sgm 6 s.dr.2.2 [] := by simpa [addFin] using hg
      rw [hg']
      have hd : DatOk s (s.sgm 2 s.dr.2.2 []) s.out.length 0 := ⟨rfl, by show s.dr.2.2 = _; rw [r2, f4], by rw [List.take_zero]; rfl, by omega⟩
      exact hd.seg (fl := 6) hs h4 h9 (.inr ⟨rfl, f1, f3, by omega⟩)
    · rw [k1, addFin_snoc] at hg
      rcases List.mem_append.1 hg with hg | hg
      · exact hsame g (by rw [k1]; simp [hg])
      · rw [List.mem_singleton.1 hg]
        exact k2.seg (fl := 6) hs h4 h9 (.inr ⟨rfl, f1, f3, by omega⟩)
  · exact hsame
theorem Snd.dat {s : Cn} {w : List Int} (ho : Ok s) (hs : Snd s w) (h4 : 4 ≤ s.st) (h9 : s.st ≠ 9) : Snd s.dat.2 w := by
  obtain ⟨r1, r2, r3, r4, r5⟩ := dr_spec ho
  obtain ⟨a, k, e1, e2, e3, e4, e5, e6⟩ := hs.high h4 h9
  have hwl := hs.wl
  have hol := ho.out
  have hb := b2n_b (s.asked && !s.finGone)
  have h0 : s.sent0 = k := by unfold Cn.sent0; rw [wrap_u32, e4]; omega
  rw [h0] at r3 r4
  obtain ⟨k', hk'⟩ : ∃ k' : Nat, (k' : Int) = s.dr.2.1 := ⟨s.dr.2.1.toNat, by omega⟩
  rw [← hk'] at r2 r3 r4
  unfold Cn.dat
  split
  · rename_i hfin
    unfold Cn.finNow at hfin
    simp at hfin
    obtain ⟨f1, f2, f3, f4⟩ := hfin
    have hb1 : b2n (s.asked && !s.finGone) = 1 := by rw [f1, f3]; rfl
    have hnx : IntKind.u32.wrap (s.dr.2.2 + 1) = (s.una + (k' + 1 : Nat)) % 4294967296 := by rw [wrap_u32, r2]; omega
    rw [hnx]
    refine ⟨hwl, ?_, fun k => by have : s.st ≤ 3 := k; omega, fun _ _ => ⟨a, k' + 1, e1, e2, e3, rfl, ?_, e6⟩⟩
    · show ((s.una + (k' + 1 : Nat)) % 4294967296 - s.una) % 4294967296 ≤ 4097
      omega
    · show ((k' + 1 : Nat) : Int) ≤ s.out.length + b2n (s.asked && !s.finGone)
      omega
  · rw [r2]
    refine ⟨hwl, ?_, fun k => by have : s.st ≤ 3 := k; omega, fun _ _ => ⟨a, k', e1, e2, e3, rfl, ?_, e6⟩⟩
    · show ((s.una + (k' : Nat)) % 4294967296 - s.una) % 4294967296 ≤ 4097
      omega
    · show (k' : Int) ≤ s.out.length + b2n (s.asked && !s.finGone)
      omega
theorem Snd.segs {s : Cn} {w : List Int} (ho : Ok s) (hs : Snd s w) : Snd s.segs.2 w := by
  have hst := ho.st
  unfold Cn.segs
  split
  · rename_i h23
    split
    · exact hs
    · rename_i hnx
      obtain ⟨e1, e2, e3, e4⟩ := hs.low (by omega)
      have hx : IntKind.u32.wrap (s.nxt + 1) = (s.first + 1) % 4294967296 := by rw [wrap_u32, show s.nxt = s.first by omega]
      rw [hx]
      refine ⟨hs.wl, ?_, fun _ => ⟨e1, e2, .inr rfl, e4⟩, fun k => by have : 4 ≤ s.st := k; omega⟩
      show ((s.first + 1) % 4294967296 - s.una) % 4294967296 ≤ 4097
      rw [e1]
      omega
  split
  · exact Snd.dat ho hs (by omega) (by omega)
  · exact hs
theorem segs_seg {s : Cn} {w : List Int} (ho : Ok s) (hs : Snd s w) : ∀ g ∈ s.segs.1, SegOk s.first s.asked w g := by
  intro g hg
  unfold Cn.segs at hg
  split at hg
  · split at hg
    · simp at hg
    · rw [List.mem_singleton] at hg
      rw [hg]
      unfold Cn.hello
      split
      · exact ⟨fun _ => ⟨rfl, rfl, by show has 1 4 = false; decide⟩, fun k => by have k' : has 1 1 = false := k; exact absurd k' (by decide)⟩
      · exact ⟨fun _ => ⟨rfl, rfl, by show has 3 4 = false; decide⟩, fun k => by have k' : has 3 1 = false := k; exact absurd k' (by decide)⟩
  split at hg
  · exact dat_seg ho hs (by omega) (by omega) g hg
  · simp at hg
theorem Snd.kept {s t : Cn} {w : List Int} (h : Snd s w) (e3 : t.nxt = s.nxt) (k : Kept s t) : Snd t w := h.same k.first k.una e3 k.out k.asked k.finGone k.st
theorem marks_nxt {now : Int} : ∀ (l : List Sg) (s : Cn), (l.foldl (Cn.mark now) s).nxt = s.nxt
  | [], s => rfl
  | g :: l, s => marks_nxt l (Cn.mark now s g)
theorem Snd.sent {s : Cn} {w : List Int} {now : Int} (ho : Ok s) (hs : Snd s w) : Snd (s.sent now).2 w :=
  (Snd.segs ho hs).kept (marks_nxt _ _) (marks_kept _ _)
theorem sent_seg {s : Cn} {w : List Int} {now : Int} (ho : Ok s) (hs : Snd s w) : ∀ g ∈ (s.sent now).1, SegOk s.first s.asked w g := by
  intro g hg
  have hg : g ∈ s.segs.2.ackd s.segs.1 := hg
  unfold Cn.ackd at hg
  split at hg
  · rw [List.mem_singleton.1 hg]
    exact sgm_empty
  · exact segs_seg ho hs g hg
theorem Snd.late {s : Cn} {w : List Int} {now : Int} (hs : Snd s w) : Snd (s.late now) w := by
  unfold Cn.late
  split
  · exact hs
  split
  · exact hs.st9
  · refine ⟨hs.wl, ?_, fun h3 => ?_, fun h4 h9 => ?_⟩
    · show (s.una - s.una) % 4294967296 ≤ 4097
      omega
    · obtain ⟨e1, e2, e3, e4⟩ := hs.low h3
      exact ⟨e1, e2, .inl e1, e4⟩
    · obtain ⟨a, k, e1, e2, e3, e4, e5, e6⟩ := hs.high h4 h9
      refine ⟨a, 0, e1, e2, e3, ?_, ?_, e6⟩
      · show s.una = (s.una + (0 : Nat)) % 4294967296
        rw [e3]
        omega
      · have := b2n_b (s.asked && !s.finGone)
        show ((0 : Nat) : Int) ≤ s.out.length + b2n (s.asked && !s.finGone)
        omega
theorem late_f (s : Cn) (now : Int) : (s.late now).first = s.first ∧ (s.late now).asked = s.asked ∧ (s.late now).synced = s.synced ∧ (s.late now).inc = s.inc ∧ (s.late now).ended = s.ended ∧ (s.late now).rcv = s.rcv ∧ ((s.late now).st = s.st ∨ (s.late now).st = 9) := by
  unfold Cn.late
  split
  · exact ⟨rfl, rfl, rfl, rfl, rfl, rfl, .inl rfl⟩
  split
  · exact ⟨rfl, rfl, rfl, rfl, rfl, rfl, .inr rfl⟩
  · exact ⟨rfl, rfl, rfl, rfl, rfl, rfl, .inl rfl⟩
theorem output_ok {s : Cn} {w : List Int} {now : Int} (ho : Ok s) (hs : Snd s w) : Snd (s.output now).2.2 w ∧ (∀ g ∈ (s.output now).2.1, SegOk s.first s.asked w g) ∧ (s.output now).2.2.first = s.first ∧ (s.output now).2.2.asked = s.asked ∧
    ∀ (f : Int) (ak : Bool) (v r : List Int), Rcv f ak v s r → Rcv f ak v (s.output now).2.2 r := by
  unfold Cn.output
  split
  · exact ⟨hs, by simp, rfl, rfl, fun _ _ _ _ h => h⟩
  rename_i hnow
  replace hnow : 0 ≤ now ∧ now ≤ 1099511627776 := Classical.byContradiction hnow
  split
  · exact ⟨hs, by simp, rfl, rfl, fun _ _ _ _ h => h⟩
  split
  · refine ⟨hs.same rfl rfl rfl rfl rfl rfl rfl, fun g hg => ?_, rfl, rfl, fun _ _ _ _ h => h.keep rfl rfl rfl rfl (fun a b => ⟨a, b⟩) (fun k => k)⟩
    have hg' : g = ⟨10, s.nxt, s.rcv, 0, []⟩ := by simpa using hg
    rw [hg']
    refine ⟨fun k => ?_, fun _ hne => ?_⟩
    · have k' : has 10 1 = true := k
      exact absurd k' (by decide)
    · rcases hne with hne | hne
      · exact absurd rfl hne
      · have k' : has 10 4 = true := hne
        exact absurd k' (by decide)
  split
  · exact ⟨hs, by simp, rfl, rfl, fun _ _ _ _ h => h⟩
  split
  · exact ⟨hs, by simp, rfl, rfl, fun _ _ _ _ h => h⟩
  obtain ⟨l1, l2, l3, l4, l5, l6, l7⟩ := late_f s now
  have hL : ∀ (f : Int) (ak : Bool) (v r : List Int), Rcv f ak v s r → Rcv f ak v (s.late now) r := fun f ak v r h => h.keep l3 l4 l5 l6 (fun a b => by rcases l7 with e | e <;> omega) (fun k => by rcases l7 with e | e <;> omega)
  split
  · exact ⟨hs.late, by simp, l1, l2, hL⟩
  · have h := ho.late hnow
    have hc : Ok { s.late now with clock := now } := ⟨h.first, h.una, h.nxt, h.rcv, h.size, h.window, h.out, h.inc, h.pat, h.tmo, h.since, hnow, h.reps, h.st, h.syn⟩
    have hsc : Snd { s.late now with clock := now } w := (hs.late (now := now)).same rfl rfl rfl rfl rfl rfl rfl
    have hk := sent_kept { s.late now with clock := now } now
    refine ⟨Snd.sent hc hsc, ?_, hk.first.trans l1, hk.asked.trans l2, fun f ak v r h => ?_⟩
    · have := sent_seg (now := now) hc hsc
      intro g hg
      have h1 := this g hg
      rw [show ({ s.late now with clock := now } : Cn).first = s.first from l1, show ({ s.late now with clock := now } : Cn).asked = s.asked from l2] at h1
      exact h1
    · exact (hL f ak v r h).keep hk.synced hk.inc hk.ended hk.rcv (fun a b => by rw [hk.st] at a b; exact ⟨a, b⟩) (fun k => by rw [hk.st] at k; exact k)
theorem input_f (s : Cn) (g : Sg) (now : Int) : (s.input g now).first = s.first ∧ (s.input g now).asked = s.asked := by
  have hs1 : ∀ c : Cn, (c.seg1 g).first = c.first ∧ (c.seg1 g).asked = c.asked := fun c => by unfold Cn.seg1; split <;> exact ⟨rfl, rfl⟩
  have hs2 : ∀ c : Cn, (c.seg2 g now).first = c.first ∧ (c.seg2 g now).asked = c.asked := fun c => by unfold Cn.seg2; split <;> exact ⟨rfl, rfl⟩
  have hsA : ∀ c : Cn, (c.segA g now).first = c.first ∧ (c.segA g now).asked = c.asked := fun c => by
    unfold Cn.segA
    split
    · exact ⟨(hs2 (c.seg1 g)).1.trans (hs1 c).1, (hs2 (c.seg1 g)).2.trans (hs1 c).2⟩
    · exact ⟨rfl, rfl⟩
  have ht : ∀ c : Cn, (c.take g).first = c.first ∧ (c.take g).asked = c.asked := fun c => by
    unfold Cn.take
    split
    · exact ⟨rfl, rfl⟩
    split <;> exact ⟨rfl, rfl⟩
  have hsB : ∀ c : Cn, (c.segB g).first = c.first ∧ (c.segB g).asked = c.asked := fun c => by
    unfold Cn.segB
    split
    · exact ⟨rfl, rfl⟩
    split
    · exact ht { c with due := true }
    · exact ⟨rfl, rfl⟩
  unfold Cn.input
  split
  · exact ⟨rfl, rfl⟩
  · unfold Cn.inp
    split
    · split <;> exact ⟨rfl, rfl⟩
    split
    · unfold Cn.answered
      split
      · exact ⟨rfl, rfl⟩
      split
      · exact ⟨rfl, rfl⟩
      split <;> exact ⟨rfl, rfl⟩
    split
    · exact ⟨rfl, rfl⟩
    · unfold Cn.segment
      split
      · split <;> exact ⟨rfl, rfl⟩
      · exact ⟨(hsB _).1.trans (hsA { s with clock := now }).1, (hsB _).2.trans (hsA { s with clock := now }).2⟩
end Go.E.St
