/- The pseudo terminal: what it is in plain Lean, and how it lies in the heap. -/
import Derived.Test.YtfgejkhhkacknaaDoorPtCode
namespace Go.E.Pty
open Go Go.E Go.Proofs.YtfgejkhhkacknaaDoor.base Go.Proofs.YtfgejkhhkacknaaDoor Go.Proofs
set_option linter.unusedVariables false
set_option linter.unusedSimpArgs false
set_option maxRecDepth 100000

structure PT where
  modes : Int
  rows : Int
  cols : Int
  line : List Int
  input : List (List Int × Bool)
  output : List Int
  stopped : Bool
  signals : List Int
  hung : Bool

def bts (l : List Int) : List Value := l.map (.int .u8 ·)
def ints (l : List Int) : List Value := l.map (.int .i64 ·)
@[simp] theorem bts_length (l : List Int) : (bts l).length = l.length := by simp [bts]
@[simp] theorem ints_length (l : List Int) : (ints l).length = l.length := by simp [ints]
theorem bts_append (a b : List Int) : bts (a ++ b) = bts a ++ bts b := by simp [bts]
theorem ints_append (a b : List Int) : ints (a ++ b) = ints a ++ ints b := by simp [ints]
theorem bts_one (l : List Int) : (bts l).all (·.oneCell') = true := by simp [bts, Value.oneCell']
theorem ints_one (l : List Int) : (ints l).all (·.oneCell') = true := by simp [ints, Value.oneCell']
theorem bts_take (l : List Int) (n : Nat) : (bts l).take n = bts (l.take n) := by simp [bts]
theorem bts_drop (l : List Int) (n : Nat) : (bts l).drop n = bts (l.drop n) := by simp [bts]

def recC (rl : Bool) (v : Value) (r : Bool) : List Value := if rl then [.bool r, v] else [v, .bool r]

inductive RecsO (H : AHeap) (rl : Bool) : List Value → List (List Int × Bool) → List Nat → Prop
  | nil : RecsO H rl [] [] []
  | cons {v : Value} {d : List Int} {r : Bool} {cs : List Value} {rs : List (List Int × Bool)} {o1 o2 : List Nat} (h : SlO H 1 v (bts d) o1) (t : RecsO H rl cs rs o2) : RecsO H rl (recC rl v r ++ cs) ((d, r) :: rs) (o1 ++ o2)

theorem RecsO.frame {H H' : AHeap} {rl : Bool} {cs : List Value} {rs : List (List Int × Bool)} {o : List Nat} (h : RecsO H rl cs rs o) (k : ∀ b ∈ o, H'.get b = H.get b) : RecsO H' rl cs rs o := by
  induction h with
  | nil => exact .nil
  | cons h t ih => exact .cons (h.frame fun b hb => k b (by simp [hb])) (ih fun b hb => k b (by simp [hb]))
theorem RecsO.append {H : AHeap} {rl : Bool} {cs cs' : List Value} {rs rs' : List (List Int × Bool)} {o o' : List Nat} (h : RecsO H rl cs rs o) (k : RecsO H rl cs' rs' o') : RecsO H rl (cs ++ cs') (rs ++ rs') (o ++ o') := by
  induction h with
  | nil => exact k
  | cons h t ih => rw [List.append_assoc, List.append_assoc]; exact .cons h ih
theorem RecsO.length {H : AHeap} {rl : Bool} {cs : List Value} {rs : List (List Int × Bool)} {o : List Nat} (h : RecsO H rl cs rs o) : cs.length = rs.length * 2 := by
  induction h with
  | nil => rfl
  | cons h t ih => simp only [List.length_append, List.length_cons, ih, recC]; split <;> simp <;> omega
theorem RecsO.last {H : AHeap} {rl : Bool} {cs : List Value} {rs : List (List Int × Bool)} {d : List Int} {r : Bool} {o : List Nat} (h : RecsO H rl cs (rs ++ [(d, r)]) o) : ∃ cs0 v o1 o2, cs = cs0 ++ recC rl v r ∧ o = o1 ++ o2 ∧ RecsO H rl cs0 rs o1 ∧ SlO H 1 v (bts d) o2 := by
  induction rs generalizing cs o with
  | nil =>
    cases h with
    | cons h t => cases t; exact ⟨[], _, [], _, by simp, by simp, .nil, h⟩
  | cons x rs ih =>
    cases h with
    | cons h t =>
      obtain ⟨cs0, v, o1, o2, rfl, rfl, h1, h2⟩ := ih t
      exact ⟨_, v, _, o2, by simp, by simp, .cons h h1, h2⟩

/-- a terminal, opened -/
structure OpT (rl : Bool) (H : AHeap) (p : Nat) (s : PT) (vl vi vo vs : Value) (cells : List Value) (ol oi orr oo os : List Nat) : Prop where
  glob : Glob objs H
  get : H.get p = .cells [.int .i64 s.modes, .int .i64 s.rows, .int .i64 s.cols, vl, vi, vo, .bool s.stopped, vs, .bool s.hung] 0 false
  line : SlO H 1 vl (bts s.line) ol
  inp : SlO H 2 vi cells oi
  recs : RecsO H rl cells s.input orr
  out : SlO H 1 vo (bts s.output) oo
  sig : SlO H 1 vs (ints s.signals) os
  nd : (p :: (ol ++ (oi ++ (orr ++ (oo ++ os))))).Nodup
  low : ∀ b ∈ p :: (ol ++ (oi ++ (orr ++ (oo ++ os)))), objs.length ≤ b ∧ b < H.next

def RepT (rl : Bool) (H : AHeap) (p : Nat) (s : PT) (O : List Nat) : Prop :=
  ∃ vl vi vo vs cells ol oi orr oo os, OpT rl H p s vl vi vo vs cells ol oi orr oo os ∧ O = p :: (ol ++ (oi ++ (orr ++ (oo ++ os))))

theorem RepT.frame {rl : Bool} {H H' : AHeap} {p : Nat} {s : PT} {O : List Nat} (h : RepT rl H p s O) (hg : Glob objs H') (hn : H.next ≤ H'.next) (k : ∀ b ∈ O, H'.get b = H.get b) : RepT rl H' p s O := by
  obtain ⟨vl, vi, vo, vs, cells, ol, oi, orr, oo, os, h, rfl⟩ := h
  refine ⟨vl, vi, vo, vs, cells, ol, oi, orr, oo, os, ⟨hg, (k _ (by simp)).trans h.get, h.line.frame fun b hb => k b (by simp [hb]), h.inp.frame fun b hb => k b (by simp [hb]), h.recs.frame fun b hb => k b (by simp [hb]), h.out.frame fun b hb => k b (by simp [hb]), h.sig.frame fun b hb => k b (by simp [hb]), h.nd, fun b hb => ⟨(h.low b hb).1, Nat.lt_of_lt_of_le (h.low b hb).2 hn⟩⟩, rfl⟩

theorem OpT.setOut {rl : Bool} {H H1 : AHeap} {p : Nat} {s : PT} {vl vi vo vs vo' : Value} {cells : List Value} {ol oi orr oo os oo' : List Nat} {out' : List Int} (h : OpT rl H p s vl vi vo vs cells ol oi orr oo os)
    (hs : SlO H1 1 vo' (bts out') oo') (he : Ext oo H oo' H1) :
    OpT rl (H1.set p (.cells [.int .i64 s.modes, .int .i64 s.rows, .int .i64 s.cols, vl, vi, vo', .bool s.stopped, vs, .bool s.hung] 0 false)) p { s with output := out' } vl vi vo' vs cells ol oi orr oo' os ∧
    Ext (p :: (ol ++ (oi ++ (orr ++ (oo ++ os))))) H (p :: (ol ++ (oi ++ (orr ++ (oo' ++ os))))) (H1.set p (.cells [.int .i64 s.modes, .int .i64 s.rows, .int .i64 s.cols, vl, vi, vo', .bool s.stopped, vs, .bool s.hung] 0 false)) := by
  have nd := h.nd
  have low := h.low
  have own := he.own
  have keep := he.keep
  have hs1 := hs.single
  have hnx := he.next
  simp only [List.nodup_cons, List.nodup_append, List.mem_append, List.mem_cons] at nd low
  have hp : p ∉ oo' := by grind
  have k : ∀ b, b < H.next → b ∉ oo → b ≠ p → (H1.set p (.cells [.int .i64 s.modes, .int .i64 s.rows, .int .i64 s.cols, vl, vi, vo', .bool s.stopped, vs, .bool s.hung] 0 false)).get b = H.get b := by
    intro b h1 h2 h3
    rw [AHeap.get_set, if_neg h3]
    exact keep b h1 h2
  refine ⟨⟨⟨fun b hb => ?_, ?_⟩, AHeap.gs_same, h.line.frame fun b hb => k b (by grind) (by grind) (by grind), h.inp.frame fun b hb => k b (by grind) (by grind) (by grind), h.recs.frame fun b hb => k b (by grind) (by grind) (by grind), hs.frame fun b hb => ?_, h.sig.frame fun b hb => k b (by grind) (by grind) (by grind), ?_, ?_⟩, ⟨hnx, ?_, ?_⟩⟩
  · rw [k b (Nat.lt_of_lt_of_le hb h.glob.le) (by grind) (by grind)]; exact h.glob.get b hb
  · exact Nat.le_trans h.glob.le hnx
  · rw [AHeap.get_set, if_neg (by grind)]
  · simp only [List.nodup_cons, List.nodup_append, List.mem_append]; grind
  · simp only [List.mem_append, List.mem_cons, AHeap.next_set]; grind [h.glob.le]
  · intro b h1 h2
    simp only [List.mem_append, List.mem_cons] at h2
    exact k b h1 (by grind) (by grind)
  · simp only [List.mem_append, List.mem_cons, AHeap.next_set]; grind

theorem OpT.setSig {rl : Bool} {H H1 : AHeap} {p : Nat} {s : PT} {vl vi vo vs vs' : Value} {cells : List Value} {ol oi orr oo os os' : List Nat} {sig' : List Int} (h : OpT rl H p s vl vi vo vs cells ol oi orr oo os)
    (hs : SlO H1 1 vs' (ints sig') os') (he : Ext os H os' H1) :
    OpT rl (H1.set p (.cells [.int .i64 s.modes, .int .i64 s.rows, .int .i64 s.cols, vl, vi, vo, .bool s.stopped, vs', .bool s.hung] 0 false)) p { s with signals := sig' } vl vi vo vs' cells ol oi orr oo os' ∧
    Ext (p :: (ol ++ (oi ++ (orr ++ (oo ++ os))))) H (p :: (ol ++ (oi ++ (orr ++ (oo ++ os'))))) (H1.set p (.cells [.int .i64 s.modes, .int .i64 s.rows, .int .i64 s.cols, vl, vi, vo, .bool s.stopped, vs', .bool s.hung] 0 false)) := by
  have nd := h.nd
  have low := h.low
  have own := he.own
  have keep := he.keep
  have hs1 := hs.single
  have hnx := he.next
  simp only [List.nodup_cons, List.nodup_append, List.mem_append, List.mem_cons] at nd low
  have k : ∀ b, b < H.next → b ∉ os → b ≠ p → (H1.set p (.cells [.int .i64 s.modes, .int .i64 s.rows, .int .i64 s.cols, vl, vi, vo, .bool s.stopped, vs', .bool s.hung] 0 false)).get b = H.get b := by
    intro b h1 h2 h3
    rw [AHeap.get_set, if_neg h3]
    exact keep b h1 h2
  refine ⟨⟨⟨fun b hb => ?_, ?_⟩, AHeap.gs_same, h.line.frame fun b hb => k b (by grind) (by grind) (by grind), h.inp.frame fun b hb => k b (by grind) (by grind) (by grind), h.recs.frame fun b hb => k b (by grind) (by grind) (by grind), h.out.frame fun b hb => k b (by grind) (by grind) (by grind), hs.frame fun b hb => ?_, ?_, ?_⟩, ⟨hnx, ?_, ?_⟩⟩
  · rw [k b (Nat.lt_of_lt_of_le hb h.glob.le) (by grind) (by grind)]; exact h.glob.get b hb
  · exact Nat.le_trans h.glob.le hnx
  · rw [AHeap.get_set, if_neg (by grind)]
  · simp only [List.nodup_cons, List.nodup_append, List.mem_append]; grind
  · simp only [List.mem_append, List.mem_cons, AHeap.next_set]; grind [h.glob.le]
  · intro b h1 h2
    simp only [List.mem_append, List.mem_cons] at h2
    exact k b h1 (by grind) (by grind)
  · simp only [List.mem_append, List.mem_cons, AHeap.next_set]; grind

/-- the line and the input -/
theorem OpT.setLI {rl : Bool} {H H1 : AHeap} {p : Nat} {s : PT} {vl vi vo vs vl' vi' : Value} {cells cells' : List Value} {ol oi orr oo os ol' oi' orr' : List Nat} {line' : List Int} {inp' : List (List Int × Bool)} (h : OpT rl H p s vl vi vo vs cells ol oi orr oo os)
    (hl : SlO H1 1 vl' (bts line') ol') (hi : SlO H1 2 vi' cells' oi') (hr : RecsO H1 rl cells' inp' orr') (he : Ext (ol ++ (oi ++ orr)) H (ol' ++ (oi' ++ orr')) H1) (hnd : (ol' ++ (oi' ++ orr')).Nodup) :
    OpT rl (H1.set p (.cells [.int .i64 s.modes, .int .i64 s.rows, .int .i64 s.cols, vl', vi', vo, .bool s.stopped, vs, .bool s.hung] 0 false)) p { s with line := line', input := inp' } vl' vi' vo vs cells' ol' oi' orr' oo os ∧
    Ext (p :: (ol ++ (oi ++ (orr ++ (oo ++ os))))) H (p :: (ol' ++ (oi' ++ (orr' ++ (oo ++ os))))) (H1.set p (.cells [.int .i64 s.modes, .int .i64 s.rows, .int .i64 s.cols, vl', vi', vo, .bool s.stopped, vs, .bool s.hung] 0 false)) := by
  have nd := h.nd
  have low := h.low
  have own := he.own
  have keep := he.keep
  have hnx := he.next
  simp only [List.nodup_cons, List.nodup_append, List.mem_append, List.mem_cons] at nd low hnd own keep
  have k : ∀ b, b < H.next → b ∉ ol → b ∉ oi → b ∉ orr → b ≠ p → (H1.set p (.cells [.int .i64 s.modes, .int .i64 s.rows, .int .i64 s.cols, vl', vi', vo, .bool s.stopped, vs, .bool s.hung] 0 false)).get b = H.get b := by
    intro b h1 h2 h3 h4 h5
    rw [AHeap.get_set, if_neg h5]
    exact keep b h1 (by grind)
  refine ⟨⟨⟨fun b hb => ?_, ?_⟩, AHeap.gs_same, hl.frame fun b hb => ?_, hi.frame fun b hb => ?_, hr.frame fun b hb => ?_, h.out.frame fun b hb => k b (by grind) (by grind) (by grind) (by grind) (by grind), h.sig.frame fun b hb => k b (by grind) (by grind) (by grind) (by grind) (by grind), ?_, ?_⟩, ⟨hnx, ?_, ?_⟩⟩
  · rw [k b (Nat.lt_of_lt_of_le hb h.glob.le) (by grind) (by grind) (by grind) (by grind)]; exact h.glob.get b hb
  · exact Nat.le_trans h.glob.le hnx
  · rw [AHeap.get_set, if_neg (by grind)]
  · rw [AHeap.get_set, if_neg (by grind)]
  · rw [AHeap.get_set, if_neg (by grind)]
  · simp only [List.nodup_cons, List.nodup_append, List.mem_append]; grind
  · simp only [List.mem_append, List.mem_cons, AHeap.next_set]; grind [h.glob.le]
  · intro b h1 h2
    simp only [List.mem_append, List.mem_cons] at h2
    exact k b h1 (by grind) (by grind) (by grind) (by grind)
  · simp only [List.mem_append, List.mem_cons, AHeap.next_set]; grind

/-- the numbers and the switches -/
theorem OpT.setFl {rl : Bool} {H : AHeap} {p : Nat} {s : PT} {vl vi vo vs : Value} {cells : List Value} {ol oi orr oo os : List Nat} (m' r' c' : Int) (st' hu' : Bool) (h : OpT rl H p s vl vi vo vs cells ol oi orr oo os) :
    OpT rl (H.set p (.cells [.int .i64 m', .int .i64 r', .int .i64 c', vl, vi, vo, .bool st', vs, .bool hu'] 0 false)) p { s with modes := m', rows := r', cols := c', stopped := st', hung := hu' } vl vi vo vs cells ol oi orr oo os ∧
    Ext (p :: (ol ++ (oi ++ (orr ++ (oo ++ os))))) H (p :: (ol ++ (oi ++ (orr ++ (oo ++ os))))) (H.set p (.cells [.int .i64 m', .int .i64 r', .int .i64 c', vl, vi, vo, .bool st', vs, .bool hu'] 0 false)) := by
  have nd := h.nd
  have low := h.low
  simp only [List.nodup_cons, List.nodup_append, List.mem_append, List.mem_cons] at nd low
  have k : ∀ b, b ≠ p → (H.set p (.cells [.int .i64 m', .int .i64 r', .int .i64 c', vl, vi, vo, .bool st', vs, .bool hu'] 0 false)).get b = H.get b := by
    intro b h5
    rw [AHeap.get_set, if_neg h5]
  refine ⟨⟨⟨fun b hb => ?_, ?_⟩, AHeap.gs_same, h.line.frame fun b hb => k b (by grind), h.inp.frame fun b hb => k b (by grind), h.recs.frame fun b hb => k b (by grind), h.out.frame fun b hb => k b (by grind), h.sig.frame fun b hb => k b (by grind), h.nd, h.low⟩, ⟨Nat.le_refl _, ?_, fun b hb => .inl hb⟩⟩
  · rw [k b (by grind)]; exact h.glob.get b hb
  · exact h.glob.le
  · intro b h1 h2
    simp only [List.mem_append, List.mem_cons] at h2
    exact k b (by grind)

theorem OpT.get3 {rl : Bool} {H H3 : AHeap} {p : Nat} {s : PT} {vl vi vo vs : Value} {cells : List Value} {ol oi orr oo os o o' : List Nat} {z : AObj} (h : OpT rl H p s vl vi vo vs cells ol oi orr oo os) (hE : Ext o (H.add z) o' H3) (ho : p ∉ o) :
    H3.get p = .cells [.int .i64 s.modes, .int .i64 s.rows, .int .i64 s.cols, vl, vi, vo, .bool s.stopped, vs, .bool s.hung] 0 false := by
  have hp := (h.low p (by simp)).2
  exact (hE.keep p (by simp only [AHeap.next_add]; omega) ho).trans (AHeap.ga_lt hp h.get)
theorem OpT.pn {rl : Bool} {H : AHeap} {p : Nat} {s : PT} {vl vi vo vs : Value} {cells : List Value} {ol oi orr oo os : List Nat} (h : OpT rl H p s vl vi vo vs cells ol oi orr oo os) : p ∉ ol ∧ p ∉ oi ∧ p ∉ orr ∧ p ∉ oo ∧ p ∉ os := by
  have := h.nd
  simp only [List.nodup_cons, List.mem_append, not_or] at this
  exact this.1
theorem OpT.lt {rl : Bool} {H : AHeap} {p : Nat} {s : PT} {vl vi vo vs : Value} {cells : List Value} {ol oi orr oo os : List Nat} (h : OpT rl H p s vl vi vo vs cells ol oi orr oo os) : p < H.next ∧ (∀ b ∈ ol, b < H.next) ∧ (∀ b ∈ oi, b < H.next) ∧ (∀ b ∈ orr, b < H.next) ∧ (∀ b ∈ oo, b < H.next) ∧ (∀ b ∈ os, b < H.next) :=
  ⟨(h.low p (by simp)).2, fun b hb => (h.low b (by simp [hb])).2, fun b hb => (h.low b (by simp [hb])).2, fun b hb => (h.low b (by simp [hb])).2, fun b hb => (h.low b (by simp [hb])).2, fun b hb => (h.low b (by simp [hb])).2⟩
theorem RepT.lt {rl : Bool} {H : AHeap} {p : Nat} {s : PT} {O : List Nat} (h : RepT rl H p s O) : ∀ b ∈ O, b < H.next := by
  obtain ⟨vl, vi, vo, vs, cells, ol, oi, orr, oo, os, h, rfl⟩ := h
  exact fun b hb => (h.low b hb).2
theorem RepT.ge {rl : Bool} {H : AHeap} {p : Nat} {s : PT} {O : List Nat} (h : RepT rl H p s O) : ∀ b ∈ O, objs.length ≤ b := by
  obtain ⟨vl, vi, vo, vs, cells, ol, oi, orr, oo, os, h, rfl⟩ := h
  exact fun b hb => (h.low b hb).1
theorem RepT.glob {rl : Bool} {H : AHeap} {p : Nat} {s : PT} {O : List Nat} (h : RepT rl H p s O) : Glob objs H := by
  obtain ⟨vl, vi, vo, vs, cells, ol, oi, orr, oo, os, h, rfl⟩ := h
  exact h.glob
def PT.raw (s : PT) (b : Int) : PT := { s with output := s.output ++ [b] }
/-- a byte more in the output -/
theorem OpT.put {rl : Bool} {H H3 : AHeap} {p : Nat} {s : PT} {vl vi vo vs vo' : Value} {cells : List Value} {ol oi orr oo os o' : List Nat} {z : AObj} {x : Int} (h : OpT rl H p s vl vi vo vs cells ol oi orr oo os)
    (hO : SlO H3 1 vo' (bts s.output ++ [.int .u8 x]) o') (hE : Ext oo (H.add z) o' H3) :
    ∃ O'', RepT rl (H3.set p (.cells [.int .i64 s.modes, .int .i64 s.rows, .int .i64 s.cols, vl, vi, vo', .bool s.stopped, vs, .bool s.hung] 0 false)) p (s.raw x) O'' ∧
      Ext (p :: (ol ++ (oi ++ (orr ++ (oo ++ os))))) H O'' (H3.set p (.cells [.int .i64 s.modes, .int .i64 s.rows, .int .i64 s.cols, vl, vi, vo', .bool s.stopped, vs, .bool s.hung] 0 false)) := by
  obtain ⟨h1, h2⟩ := h.setOut (out' := s.output ++ [x]) (by rw [bts_append]; exact hO) ((Ext.add oo H z).trans hE h.lt.2.2.2.2.1)
  exact ⟨_, ⟨_, _, _, _, _, _, _, _, _, _, h1, rfl⟩, h2⟩

theorem OpT.setLine {rl : Bool} {H H3 : AHeap} {p : Nat} {s : PT} {vl vi vo vs vl' : Value} {cells : List Value} {ol oi orr oo os ol' : List Nat} {line' : List Int} (h : OpT rl H p s vl vi vo vs cells ol oi orr oo os)
    (hO : SlO H3 1 vl' (bts line') ol') (hE : Ext ol H ol' H3) :
    ∃ O'', RepT rl (H3.set p (.cells [.int .i64 s.modes, .int .i64 s.rows, .int .i64 s.cols, vl', vi, vo, .bool s.stopped, vs, .bool s.hung] 0 false)) p { s with line := line' } O'' ∧
      Ext (p :: (ol ++ (oi ++ (orr ++ (oo ++ os))))) H O'' (H3.set p (.cells [.int .i64 s.modes, .int .i64 s.rows, .int .i64 s.cols, vl', vi, vo, .bool s.stopped, vs, .bool s.hung] 0 false)) := by
  have nd := h.nd
  have lt := h.lt
  have hs1 := hO.single
  have own := hE.own
  simp only [List.nodup_cons, List.nodup_append, List.mem_append] at nd
  have hi : SlO H3 2 vi cells oi := h.inp.frame fun b hb => hE.keep b (lt.2.2.1 b hb) (by grind)
  have hr : RecsO H3 rl cells s.input orr := h.recs.frame fun b hb => hE.keep b (lt.2.2.2.1 b hb) (by grind)
  obtain ⟨h1, h2⟩ := h.setLI hO hi hr ⟨hE.next, fun b hb hn => hE.keep b hb (by grind), fun b hb => by
    simp only [List.mem_append] at hb ⊢
    rcases hb with hb | hb
    · exact (own b hb).imp (fun h => .inl h) id
    · exact .inl (.inr hb)⟩ (by simp only [List.nodup_append, List.mem_append]; grind)
  exact ⟨_, ⟨_, _, _, _, _, _, _, _, _, _, h1, rfl⟩, h2⟩

theorem fin_congr {rl : Bool} {H H1 H2 : AHeap} {p : Nat} {s : PT} {O : List Nat} (h : ∃ O', RepT rl H1 p s O' ∧ Ext O H O' H1) (hget : ∀ b, H2.get b = H1.get b) (hn : H2.next = H1.next) : ∃ O', RepT rl H2 p s O' ∧ Ext O H O' H2 := by
  obtain ⟨O', h1, h2⟩ := h
  exact ⟨O', h1.frame ⟨fun b hb => (hget b).trans (h1.glob.get b hb), by rw [hn]; exact h1.glob.le⟩ (Nat.le_of_eq hn.symm) fun b _ => hget b, ⟨by rw [hn]; exact h2.next, fun b hb hb2 => (hget b).trans (h2.keep b hb hb2), fun b hb => by rw [hn]; exact h2.own b hb⟩⟩
theorem set_set (H : AHeap) (p : Nat) (A B : AObj) (b : Nat) : ((H.set p A).set p B).get b = (H.set p B).get b := by
  simp only [AHeap.get_set]; split <;> rfl

theorem RepT.add {rl : Bool} {H : AHeap} {p : Nat} {s : PT} {O : List Nat} (h : RepT rl H p s O) (z : AObj) : RepT rl (H.add z) p s O :=
  h.frame (h.glob.ext (Ext.add O H z) h.ge) (by simp) fun b hb => (Ext.add [] H z).keep b (h.lt b hb) (by simp)

/-- the last record's bytes -/
theorem OpT.setRun {H H3 : AHeap} {p : Nat} {s : PT} {vl vo vs v v' : Value} {cs0 csi : List Value} {ol o1 o2 oo os o2' : List Nat} {bi offi li ci : Nat} {rs : List (List Int × Bool)} {d' : List Int} {r : Bool} (h : OpT false H p s vl (.slice (some ⟨bi, offi, none⟩) li ci) vo vs (cs0 ++ recC false v r) ol [bi] (o1 ++ o2) oo os)
    (hr1 : RecsO H false cs0 rs o1) (hgi : H.get bi = .cells csi 2 false) (hO : SlO H3 1 v' (bts d') o2') (hE : Ext o2 H o2' H3) :
    ∃ O'', RepT false (H3.set bi (.cells (csi.set (offi + rs.length * 2) v') 2 false)) p { s with input := rs ++ [(d', r)] } O'' ∧
      Ext (p :: (ol ++ ([bi] ++ ((o1 ++ o2) ++ (oo ++ os))))) H O'' (H3.set bi (.cells (csi.set (offi + rs.length * 2) v') 2 false)) := by
  have nd := h.nd
  have low := h.low
  have own := hE.own
  have keep := hE.keep
  have hnx := hE.next
  have hl := hr1.length
  have hs1 := hO.single
  simp only [List.nodup_cons, List.nodup_append, List.mem_append, List.mem_cons, List.not_mem_nil, or_false] at nd low
  have k : ∀ b, b < H.next → b ∉ o2 → b ≠ bi → (H3.set bi (.cells (csi.set (offi + rs.length * 2) v') 2 false)).get b = H.get b := by
    intro b h1 h2 h3
    rw [AHeap.get_set, if_neg h3]
    exact keep b h1 h2
  have hi := h.inp.setAt (H1 := H3) hgi (rs.length * 2) v'
  have e : (cs0 ++ recC false v r).set (rs.length * 2) v' = cs0 ++ (recC false v' r ++ []) := by
    rw [List.set_append_right _ _ (by omega), hl, Nat.sub_self]
    simp [recC]
  rw [e] at hi
  refine ⟨p :: (ol ++ ([bi] ++ ((o1 ++ (o2' ++ [])) ++ (oo ++ os)))), ⟨vl, _, vo, vs, _, ol, [bi], o1 ++ (o2' ++ []), oo, os, ⟨⟨fun b hb => ?_, Nat.le_trans h.glob.le hnx⟩, (k p (by grind) (by grind) (by grind)).trans h.get, h.line.frame fun b hb => k b (by grind) (by grind) (by grind), hi, (hr1.frame fun b hb => k b (by grind) (by grind) (by grind)).append (.cons (hO.frame fun b hb => ?_) .nil), h.out.frame fun b hb => k b (by grind) (by grind) (by grind), h.sig.frame fun b hb => k b (by grind) (by grind) (by grind), ?_, ?_⟩, rfl⟩, ⟨hnx, ?_, ?_⟩⟩
  · rw [k b (Nat.lt_of_lt_of_le hb h.glob.le) (by grind) (by grind)]; exact h.glob.get b hb
  · rw [AHeap.get_set, if_neg (by grind)]
  · simp only [List.nodup_cons, List.nodup_append, List.mem_append, List.append_nil, List.mem_cons, List.not_mem_nil, or_false]; grind
  · simp only [List.mem_append, List.mem_cons, AHeap.next_set, List.append_nil, List.not_mem_nil, or_false]; grind [h.glob.le]
  · intro b h1 h2
    simp only [List.mem_append, List.mem_cons, List.not_mem_nil, or_false] at h2
    exact k b h1 (by grind) (by grind)
  · simp only [List.mem_append, List.mem_cons, AHeap.next_set, List.append_nil, List.not_mem_nil, or_false]; grind

/-- line and input dropped -/
theorem OpT.reset {rl : Bool} {H : AHeap} {p : Nat} {s : PT} {vl vi vo vs : Value} {cells : List Value} {ol oi orr oo os : List Nat} {A : AObj} (h : OpT rl H p s vl vi vo vs cells ol oi orr oo os) :
    ∃ O'', RepT rl ((H.set p A).set p (.cells [.int .i64 s.modes, .int .i64 s.rows, .int .i64 s.cols, .slice none 0 0, .slice none 0 0, vo, .bool s.stopped, vs, .bool s.hung] 0 false)) p { s with line := [], input := [] } O'' ∧
      Ext (p :: (ol ++ (oi ++ (orr ++ (oo ++ os))))) H O'' ((H.set p A).set p (.cells [.int .i64 s.modes, .int .i64 s.rows, .int .i64 s.cols, .slice none 0 0, .slice none 0 0, vo, .bool s.stopped, vs, .bool s.hung] 0 false)) := by
  refine fin_congr ?_ (set_set _ _ _ _) rfl
  obtain ⟨h1, h2⟩ := h.setLI (line' := []) (inp' := []) (ol' := []) (oi' := []) (orr' := []) (vl' := .slice none 0 0) (vi' := .slice none 0 0) .nil .nil .nil ⟨Nat.le_refl _, fun _ _ _ => rfl, fun b hb => by simp at hb⟩ (by simp)
  exact ⟨_, ⟨_, _, _, _, _, _, _, _, _, _, h1, rfl⟩, h2⟩

/-- a record more, whose block is new -/
theorem OpT.addRec {H H3 : AHeap} {p : Nat} {s : PT} {vl vi vo vs vi' v : Value} {cells : List Value} {ol oi orr oo os oi' : List Nat} {d : List Int} {r : Bool} {z : AObj} (h : OpT false H p s vl vi vo vs cells ol oi orr oo os)
    (hv : SlO (H.add z) 1 v (bts d) [H.next]) (hi : SlO H3 2 vi' (cells ++ recC false v r) oi') (hE : Ext oi (H.add z) oi' H3) :
    ∃ O'', RepT false (H3.set p (.cells [.int .i64 s.modes, .int .i64 s.rows, .int .i64 s.cols, vl, vi', vo, .bool s.stopped, vs, .bool s.hung] 0 false)) p { s with input := s.input ++ [(d, r)] } O'' ∧
      Ext (p :: (ol ++ (oi ++ (orr ++ (oo ++ os))))) H O'' (H3.set p (.cells [.int .i64 s.modes, .int .i64 s.rows, .int .i64 s.cols, vl, vi', vo, .bool s.stopped, vs, .bool s.hung] 0 false)) := by
  have nd := h.nd
  have lt := h.lt
  have own := hE.own
  have keep := hE.keep
  have hnx := hE.next
  simp only [AHeap.next_add] at own keep hnx
  have hs1 := hi.single
  simp only [List.nodup_cons, List.nodup_append, List.mem_append] at nd
  have k : ∀ b, b < H.next → b ∉ oi → H3.get b = H.get b := fun b h1 h2 => (keep b (by omega) h2).trans (by rw [AHeap.get_add, if_neg (by omega)])
  have hr : RecsO H3 false (cells ++ (recC false v r ++ [])) (s.input ++ [(d, r)]) (orr ++ ([H.next] ++ [])) :=
    (h.recs.frame fun b hb => k b (lt.2.2.2.1 b hb) (by grind)).append (.cons (hv.frame fun b hb => keep b (by simp at hb; omega) (by have := lt.2.2.1; grind)) .nil)
  rw [List.append_nil] at hr
  have hli : SlO H3 1 vl (bts s.line) ol := h.line.frame fun b hb => k b (lt.2.1 b hb) (by grind)
  obtain ⟨h1, h2⟩ := h.setLI (line' := s.line) (ol' := ol) hli hi hr ⟨by omega, fun b hb hn => k b hb (by grind), fun b hb => by
    simp only [List.mem_append, List.append_nil, List.mem_cons, List.not_mem_nil, or_false] at hb ⊢
    grind⟩ (by simp only [List.append_nil, List.nodup_append, List.mem_append, List.mem_cons, List.not_mem_nil, or_false]; have := lt; grind)
  exact ⟨_, ⟨_, _, _, _, _, _, _, _, _, _, h1, rfl⟩, h2⟩

theorem OpT.frame {rl : Bool} {H H' : AHeap} {p : Nat} {s : PT} {vl vi vo vs : Value} {cells : List Value} {ol oi orr oo os : List Nat} (h : OpT rl H p s vl vi vo vs cells ol oi orr oo os) (hn : H.next ≤ H'.next) (k : ∀ b, b < H.next → H'.get b = H.get b) : OpT rl H' p s vl vi vo vs cells ol oi orr oo os :=
  ⟨⟨fun b hb => (k b (Nat.lt_of_lt_of_le hb h.glob.le)).trans (h.glob.get b hb), Nat.le_trans h.glob.le hn⟩, (k p h.lt.1).trans h.get, h.line.frame fun b hb => k b (h.lt.2.1 b hb), h.inp.frame fun b hb => k b (h.lt.2.2.1 b hb), h.recs.frame fun b hb => k b (h.lt.2.2.2.1 b hb), h.out.frame fun b hb => k b (h.lt.2.2.2.2.1 b hb), h.sig.frame fun b hb => k b (h.lt.2.2.2.2.2 b hb), h.nd, fun b hb => ⟨(h.low b hb).1, Nat.lt_of_lt_of_le (h.low b hb).2 hn⟩⟩
end Go.E.Pty
