/- A talk in plain Lean: what always holds, kept by every step. -/
import Derived.Test.YtamcfhhcmjagnaaStT1
import Derived.Test.YtamcfhhcmjagnaaStLw
namespace Go.E.St
open Go Go.E Go.Proofs.Ytamcfhhcmjagnaa Go.Proofs
set_option linter.unusedVariables false
set_option linter.unusedSimpArgs false
set_option maxRecDepth 100000
/-! ### segments that are put out are valid -/
def SgV (g : Sg) : Prop := validE g = 0 ∧ (0 ≤ g.seq ∧ g.seq ≤ 4294967295) ∧ 0 ≤ g.num ∧ g.num ≤ 4294967295
theorem validE_of {g : Sg} (hf : g.fl = 1 ∨ g.fl = 2 ∨ g.fl = 3 ∨ g.fl = 6 ∨ g.fl = 10) (hw : 0 ≤ g.win ∧ g.win ≤ 4096) (hd : g.data.length ≤ 256) : validE g = 0 := by
  unfold validE
  rw [if_neg (by omega), if_neg (by omega), if_neg (by omega), if_neg]
  rcases hf with h | h | h | h | h <;> rw [h] <;> decide
theorem sgm_v {s : Cn} (ho : Ok s) {f n : Int} {d : List Int} (hf : f = 1 ∨ f = 2 ∨ f = 3 ∨ f = 6 ∨ f = 10) (hn : 0 ≤ n ∧ n ≤ 4294967295) (hd : d.length ≤ 256) : SgV (s.sgm f n d) := by
  have hi := ho.inc
  refine ⟨validE_of hf ?_ hd, hn, ho.rcv⟩
  show 0 ≤ (4096 : Int) - s.inc.length ∧ (4096 : Int) - s.inc.length ≤ 4096
  omega
theorem dl_v {s : Cn} (ho : Ok s) (lim : Int) : ∀ (f : Nat) (sent nx : Int), 0 ≤ nx ∧ nx ≤ 4294967295 → ∀ g ∈ (s.dl lim f sent nx).1, SgV g
  | 0, _, _, _, g, h => by simp [Cn.dl] at h
  | f + 1, sent, nx, hx, g, h => by
    rw [Cn.dl] at h
    split at h
    · rcases List.mem_cons.1 h with h | h
      · rw [h]
        refine sgm_v ho (.inr (.inl rfl)) hx ?_
        have := ho.size
        rw [List.length_take]
        unfold Cn.dn
        omega
      · exact dl_v ho lim f _ _ (w32b _) g h
    · simp at h
theorem fin_v {g : Sg} (h : SgV g) (h2 : g.fl = 2) : SgV { g with fl := 6 } := by
  obtain ⟨h1, h3⟩ := h
  refine ⟨?_, h3⟩
  unfold validE at h1
  split at h1
  · omega
  split at h1
  · omega
  split at h1
  · omega
  exact validE_of (.inr (.inr (.inr (.inl rfl)))) (by show 0 ≤ g.win ∧ g.win ≤ 4096; omega) (by show g.data.length ≤ 256; omega)
theorem addFin_v {s : Cn} (ho : Ok s) {nx : Int} (hx : 0 ≤ nx ∧ nx ≤ 4294967295) : ∀ (l : List Sg), (∀ g ∈ l, SgV g ∧ g.fl = 2) → ∀ g ∈ addFin s nx l, SgV g
  | [], _, g, h => by
    rw [addFin, List.mem_singleton] at h
    rw [h]; exact sgm_v ho (.inr (.inr (.inr (.inl rfl)))) hx (by simp)
  | [a], hl, g, h => by
    rw [addFin, List.mem_singleton] at h
    rw [h]; exact fin_v (hl a (by simp)).1 (hl a (by simp)).2
  | a :: b :: l, hl, g, h => by
    rw [addFin] at h
    · rcases List.mem_cons.1 h with h | h
      · rw [h]; exact (hl a (by simp)).1
      · exact addFin_v ho hx (b :: l) (fun x hx => hl x (by simp at hx ⊢; right; exact hx)) g h
    · intro h; cases h
theorem segs_v {s : Cn} (ho : Ok s) : ∀ g ∈ s.segs.1, SgV g := by
  intro g hg
  have hi := ho.inc
  have hn := ho.nxt
  unfold Cn.segs at hg
  split at hg
  · split at hg
    · simp at hg
    · rw [List.mem_singleton] at hg
      rw [hg]; unfold Cn.hello; split
      · exact ⟨validE_of (.inl rfl) (by show 0 ≤ (4096 : Int) - s.inc.length ∧ (4096 : Int) - s.inc.length ≤ 4096; omega) (by simp), ho.first, by show (0 : Int) ≤ 0; omega, by show (0 : Int) ≤ 4294967295; omega⟩
      · exact sgm_v ho (.inr (.inr (.inl rfl))) ho.first (by simp)
  split at hg
  · have hnx : 0 ≤ s.dr.2.2 ∧ s.dr.2.2 ≤ 4294967295 := dl_nx s _ _ _ _ hn
    have hdr : ∀ g ∈ s.dr.1, SgV g ∧ g.fl = 2 := fun g h => ⟨dl_v ho _ _ _ _ hn g h, dl_fl s _ _ _ _ g h⟩
    unfold Cn.dat at hg
    split at hg
    · exact addFin_v ho hnx _ hdr g hg
    · exact (hdr g hg).1
  · simp at hg
theorem out_v {s : Cn} {now : Int} (ho : Ok s) : ∀ g ∈ (s.output now).2.1, SgV g := by
  unfold Cn.output
  split
  · simp
  rename_i hnow
  replace hnow : 0 ≤ now ∧ now ≤ 1099511627776 := Classical.byContradiction hnow
  split
  · simp
  split
  · intro g hg
    have hg' : g = ⟨10, s.nxt, s.rcv, 0, []⟩ := by simpa using hg
    rw [hg']
    exact ⟨validE_of (.inr (.inr (.inr (.inr rfl)))) (by show (0 : Int) ≤ 0 ∧ (0 : Int) ≤ 4096; omega) (by simp), ho.nxt, ho.rcv⟩
  split
  · simp
  split
  · simp
  split
  · simp
  · have h := ho.late hnow
    have hc : Ok { s.late now with clock := now } := ⟨h.first, h.una, h.nxt, h.rcv, h.size, h.window, h.out, h.inc, h.pat, h.tmo, h.since, hnow, h.reps, h.st, h.syn⟩
    intro g hg
    have hg : g ∈ ({ s.late now with clock := now } : Cn).segs.2.ackd ({ s.late now with clock := now } : Cn).segs.1 := hg
    unfold Cn.ackd at hg
    split at hg
    · rw [List.mem_singleton.1 hg]
      exact sgm_v hc.segs (.inr (.inl rfl)) hc.segs.nxt (by simp)
    · exact segs_v hc g hg
/-! ### the talk -/
structure Tk where
  s0 : Cn
  s1 : Cn
  air : List Fl
  now : Int
  w0 : List Int
  w1 : List Int
  r0 : List Int
  r1 : List Int
def FlOk (t : Tk) (P : List (Value × List Int)) (f : Fl) : Prop :=
  (f.to = 0 ∧ SegOk t.s1.first t.s1.asked t.w1 f.g ∨ f.to = 1 ∧ SegOk t.s0.first t.s0.asked t.w0 f.g) ∧ SgV f.g ∧ (f.v, f.g.data) ∈ P ∧ ∃ a c, f.v = .slice a f.g.data.length c
structure TkOk (t : Tk) (P : List (Value × List Int)) (i : Nat) : Prop where
  i0 : Inv t.s0
  i1 : Inv t.s1
  n0 : Snd t.s0 t.w0
  n1 : Snd t.s1 t.w1
  v0 : Rcv t.s1.first t.s1.asked t.w1 t.s0 t.r0
  v1 : Rcv t.s0.first t.s0.asked t.w0 t.s1 t.r1
  air : ∀ f ∈ t.air, FlOk t P f
  al : t.air.length ≤ 5001 * i
  wl0 : t.w0.length ≤ 300 * i
  wl1 : t.w1.length ≤ 300 * i
  now : 0 ≤ t.now ∧ t.now ≤ 255 * i
  ck : t.s0.clock ≤ t.now ∧ t.s1.clock ≤ t.now
theorem TkOk.tick {t : Tk} {P : List (Value × List Int)} {i : Nat} {n : Int} (h : TkOk t P i) (hn : 0 ≤ n ∧ n ≤ 255) : TkOk { t with now := t.now + n } P (i + 1) := by
  have h1 := h.al
  have h2 := h.wl0
  have h3 := h.wl1
  have h4 := h.now
  exact ⟨h.i0, h.i1, h.n0, h.n1, h.v0, h.v1, h.air, by show t.air.length ≤ _; omega, by show t.w0.length ≤ _; omega, by show t.w1.length ≤ _; omega, by show 0 ≤ t.now + n ∧ t.now + n ≤ _; omega, by have := h.ck; show t.s0.clock ≤ t.now + n ∧ t.s1.clock ≤ t.now + n; omega⟩
theorem write_f (s : Cn) (d : List Int) : (s.write d).2.2.first = s.first ∧ (s.write d).2.2.asked = s.asked := by
  rcases write_cases s d with ⟨e, _⟩ | ⟨m, _, _, _, _, e⟩
  · rw [e]; exact ⟨rfl, rfl⟩
  · rw [e]; exact ⟨rfl, rfl⟩
theorem Rcv.write {f : Int} {ak : Bool} {w : List Int} {s : Cn} {r d : List Int} (h : Rcv f ak w s r) : Rcv f ak w (s.write d).2.2 r := by
  rcases write_cases s d with ⟨e, _⟩ | ⟨m, _, _, _, _, e⟩
  · rw [e]; exact h
  · rw [e]; exact h.keep rfl rfl rfl rfl (fun a b => ⟨a, b⟩) (fun k => k)
theorem write_more {s : Cn} {w d : List Int} {m : Nat} (h : Snd s w) (hm : (s.write d).1 = m) (hml : m ≤ d.length) (hwl : w.length + m ≤ 1000000) : Snd (s.write d).2.2 (w ++ d.take m) ∧ (s.asked = true → d.take m = []) := by
  rcases write_cases s d with ⟨e, e2⟩ | ⟨m', h1, h2, h3, e2, e⟩
  · have : m = 0 := by omega
    rw [e, this, List.take_zero, List.append_nil]
    exact ⟨h, fun _ => rfl⟩
  · have : m = m' := by omega
    rw [e, this]
    exact ⟨h.write h1 (by omega) h3 h2, fun k => by rw [h2] at k; cases k⟩
theorem close_f (s : Cn) : s.close.2.first = s.first ∧ (s.asked = true → s.close.2.asked = true) := by
  rcases close_cases s with e | ⟨_, _, e⟩
  · rw [e]; exact ⟨rfl, id⟩
  · rw [e]; exact ⟨rfl, fun _ => rfl⟩
theorem SegOk.ask' {f : Int} {a b : Bool} {w : List Int} {g : Sg} (h : SegOk f a w g) (hb : a = true → b = true) : SegOk f b w g := by
  cases b with
  | true => exact h.ask
  | false => cases a with
    | true => have := hb rfl; cases this
    | false => exact h
theorem Rcv.ask' {f : Int} {a b : Bool} {w : List Int} {s : Cn} {r : List Int} (h : Rcv f a w s r) (hb : a = true → b = true) : Rcv f b w s r := by
  cases b with
  | true => exact h.ask
  | false => cases a with
    | true => have := hb rfl; cases this
    | false => exact h
theorem read_f (s : Cn) (n : Int) : (s.read n).2.2.first = s.first ∧ (s.read n).2.2.asked = s.asked := by
  obtain ⟨m, du, _, e⟩ := read_cases s n
  rw [e]; exact ⟨rfl, rfl⟩
theorem write_ck (s : Cn) (d : List Int) : (s.write d).2.2.clock = s.clock := by
  rcases write_cases s d with ⟨e, _⟩ | ⟨m, _, _, _, _, e⟩
  · rw [e]
  · rw [e]
theorem close_ck (s : Cn) : s.close.2.clock = s.clock := by
  rcases close_cases s with e | ⟨_, _, e⟩
  · rw [e]
  · rw [e]
theorem read_ck (s : Cn) (n : Int) : (s.read n).2.2.clock = s.clock := by
  obtain ⟨m, du, _, e⟩ := read_cases s n
  rw [e]
theorem input_ck {s : Cn} {g : Sg} {now : Int} (h : s.clock ≤ now) : (s.input g now).clock ≤ now := by
  have hs1 : ∀ c : Cn, (c.seg1 g).clock = c.clock := fun c => by unfold Cn.seg1; split <;> rfl
  have hs2 : ∀ c : Cn, (c.seg2 g now).clock = c.clock := fun c => by unfold Cn.seg2; split <;> rfl
  have hsA : ∀ c : Cn, (c.segA g now).clock = c.clock := fun c => by
    unfold Cn.segA
    split
    · exact (hs2 (c.seg1 g)).trans (hs1 c)
    · rfl
  have ht : ∀ c : Cn, (c.take g).clock = c.clock := fun c => by
    unfold Cn.take
    split
    · rfl
    split <;> rfl
  have hsB : ∀ c : Cn, (c.segB g).clock = c.clock := fun c => by
    unfold Cn.segB
    split
    · rfl
    split
    · exact ht { c with due := true }
    · rfl
  have hi : ∀ c : Cn, (c.inp g now).clock = c.clock := fun c => by
    unfold Cn.inp
    split
    · split <;> rfl
    split
    · unfold Cn.answered
      split
      · rfl
      split
      · rfl
      split <;> rfl
    split
    · rfl
    · unfold Cn.segment
      split
      · split <;> rfl
      · exact (hsB _).trans (hsA c)
  unfold Cn.input
  split
  · exact h
  · rw [hi]
    exact Int.le_refl _
theorem output_ck {s : Cn} {now : Int} (h : s.clock ≤ now) : (s.output now).2.2.clock ≤ now := by
  have hl : (s.late now).clock = s.clock := by
    unfold Cn.late
    split
    · rfl
    split <;> rfl
  unfold Cn.output
  split
  · exact h
  split
  · exact h
  split
  · exact Int.le_refl _
  split
  · exact h
  split
  · exact h
  split
  · show (s.late now).clock ≤ now
    rw [hl]; exact h
  · have hk := sent_kept { s.late now with clock := now } now
    show (({ s.late now with clock := now } : Cn).sent now).2.clock ≤ now
    rw [hk.clock]
    exact Int.le_refl _
theorem TkOk.write0 {t : Tk} {P : List (Value × List Int)} {j m : Nat} {d : List Int} (h : TkOk t P j) (hb : t.w0.length + 300 ≤ 300 * j) (hj : j ≤ 100) (hd : d.length ≤ 300) (hm : (t.s0.write d).1 = m) (hml : m ≤ d.length) :
    TkOk { t with s0 := (t.s0.write d).2.2, w0 := t.w0 ++ d.take m } P j := by
  obtain ⟨f1, f2⟩ := write_f t.s0 d
  obtain ⟨k1, k2⟩ := write_more h.n0 hm hml (by omega)
  exact { i0 := h.i0.write, i1 := h.i1, n0 := k1, n1 := h.n1, v0 := h.v0.write
          v1 := by
            show Rcv (t.s0.write d).2.2.first (t.s0.write d).2.2.asked (t.w0 ++ d.take m) t.s1 t.r1
            rw [f1, f2]; exact h.v1.more k2
          air := fun f hf => by
            obtain ⟨a1, a2⟩ := h.air f hf
            refine ⟨?_, a2⟩
            rcases a1 with ⟨a0, a1⟩ | ⟨a0, a1⟩
            · exact .inl ⟨a0, a1⟩
            · refine .inr ⟨a0, ?_⟩
              show SegOk (t.s0.write d).2.2.first (t.s0.write d).2.2.asked (t.w0 ++ d.take m) f.g
              rw [f1, f2]; exact a1.more k2
          al := h.al
          wl0 := by
            show (t.w0 ++ d.take m).length ≤ _
            rw [List.length_append, List.length_take]
            omega
          wl1 := h.wl1, now := h.now, ck := ⟨by have := h.ck.1; show (t.s0.write d).2.2.clock ≤ t.now; rw [write_ck]; exact this, h.ck.2⟩ }
theorem TkOk.write1 {t : Tk} {P : List (Value × List Int)} {j m : Nat} {d : List Int} (h : TkOk t P j) (hb : t.w1.length + 300 ≤ 300 * j) (hj : j ≤ 100) (hd : d.length ≤ 300) (hm : (t.s1.write d).1 = m) (hml : m ≤ d.length) :
    TkOk { t with s1 := (t.s1.write d).2.2, w1 := t.w1 ++ d.take m } P j := by
  obtain ⟨f1, f2⟩ := write_f t.s1 d
  obtain ⟨k1, k2⟩ := write_more h.n1 hm hml (by omega)
  exact { i1 := h.i1.write, i0 := h.i0, n1 := k1, n0 := h.n0, v1 := h.v1.write
          v0 := by
            show Rcv (t.s1.write d).2.2.first (t.s1.write d).2.2.asked (t.w1 ++ d.take m) t.s0 t.r0
            rw [f1, f2]; exact h.v0.more k2
          air := fun f hf => by
            obtain ⟨a1, a2⟩ := h.air f hf
            refine ⟨?_, a2⟩
            rcases a1.symm with ⟨a0, a1⟩ | ⟨a0, a1⟩
            · exact .inr ⟨a0, a1⟩
            · refine .inl ⟨a0, ?_⟩
              show SegOk (t.s1.write d).2.2.first (t.s1.write d).2.2.asked (t.w1 ++ d.take m) f.g
              rw [f1, f2]; exact a1.more k2
          al := h.al
          wl1 := by
            show (t.w1 ++ d.take m).length ≤ _
            rw [List.length_append, List.length_take]
            omega
          wl0 := h.wl0, now := h.now, ck := ⟨h.ck.1, by have := h.ck.2; show (t.s1.write d).2.2.clock ≤ t.now; rw [write_ck]; exact this⟩ }
theorem TkOk.close0 {t : Tk} {P : List (Value × List Int)} {j : Nat} (h : TkOk t P j) : TkOk { t with s0 := t.s0.close.2 } P j := by
  obtain ⟨f1, f2⟩ := close_f t.s0
  exact { i0 := h.i0.close, i1 := h.i1, n0 := h.n0.close, n1 := h.n1, v0 := h.v0.close
          v1 := by
            show Rcv t.s0.close.2.first t.s0.close.2.asked t.w0 t.s1 t.r1
            rw [f1]; exact h.v1.ask' f2
          air := fun f hf => by
            obtain ⟨a1, a2⟩ := h.air f hf
            refine ⟨?_, a2⟩
            rcases a1 with ⟨a0, a1⟩ | ⟨a0, a1⟩
            · exact .inl ⟨a0, a1⟩
            · refine .inr ⟨a0, ?_⟩
              show SegOk t.s0.close.2.first t.s0.close.2.asked t.w0 f.g
              rw [f1]; exact a1.ask' f2
          al := h.al, wl0 := h.wl0, wl1 := h.wl1, now := h.now, ck := ⟨by have := h.ck.1; show t.s0.close.2.clock ≤ t.now; rw [close_ck]; exact this, h.ck.2⟩ }
theorem TkOk.close1 {t : Tk} {P : List (Value × List Int)} {j : Nat} (h : TkOk t P j) : TkOk { t with s1 := t.s1.close.2 } P j := by
  obtain ⟨f1, f2⟩ := close_f t.s1
  exact { i1 := h.i1.close, i0 := h.i0, n1 := h.n1.close, n0 := h.n0, v1 := h.v1.close
          v0 := by
            show Rcv t.s1.close.2.first t.s1.close.2.asked t.w1 t.s0 t.r0
            rw [f1]; exact h.v0.ask' f2
          air := fun f hf => by
            obtain ⟨a1, a2⟩ := h.air f hf
            refine ⟨?_, a2⟩
            rcases a1.symm with ⟨a0, a1⟩ | ⟨a0, a1⟩
            · exact .inr ⟨a0, a1⟩
            · refine .inl ⟨a0, ?_⟩
              show SegOk t.s1.close.2.first t.s1.close.2.asked t.w1 f.g
              rw [f1]; exact a1.ask' f2
          al := h.al, wl1 := h.wl1, wl0 := h.wl0, now := h.now, ck := ⟨h.ck.1, by have := h.ck.2; show t.s1.close.2.clock ≤ t.now; rw [close_ck]; exact this⟩ }
theorem TkOk.read0 {t : Tk} {P : List (Value × List Int)} {j : Nat} {n : Int} (h : TkOk t P j) : TkOk { t with s0 := (t.s0.read n).2.2, r0 := t.r0 ++ (t.s0.read n).1 } P j := by
  obtain ⟨f1, f2⟩ := read_f t.s0 n
  exact { i0 := h.i0.read, i1 := h.i1, n0 := h.n0.read, n1 := h.n1, v0 := h.v0.read
          v1 := by
            show Rcv (t.s0.read n).2.2.first (t.s0.read n).2.2.asked t.w0 t.s1 t.r1
            rw [f1, f2]; exact h.v1
          air := fun f hf => by
            obtain ⟨a1, a2⟩ := h.air f hf
            refine ⟨?_, a2⟩
            show f.to = 0 ∧ _ ∨ f.to = 1 ∧ SegOk (t.s0.read n).2.2.first (t.s0.read n).2.2.asked t.w0 f.g
            rw [f1, f2]; exact a1
          al := h.al, wl0 := h.wl0, wl1 := h.wl1, now := h.now, ck := ⟨by have := h.ck.1; show (t.s0.read n).2.2.clock ≤ t.now; rw [read_ck]; exact this, h.ck.2⟩ }
theorem TkOk.read1 {t : Tk} {P : List (Value × List Int)} {j : Nat} {n : Int} (h : TkOk t P j) : TkOk { t with s1 := (t.s1.read n).2.2, r1 := t.r1 ++ (t.s1.read n).1 } P j := by
  obtain ⟨f1, f2⟩ := read_f t.s1 n
  exact { i1 := h.i1.read, i0 := h.i0, n1 := h.n1.read, n0 := h.n0, v1 := h.v1.read
          v0 := by
            show Rcv (t.s1.read n).2.2.first (t.s1.read n).2.2.asked t.w1 t.s0 t.r0
            rw [f1, f2]; exact h.v0
          air := fun f hf => by
            obtain ⟨a1, a2⟩ := h.air f hf
            refine ⟨?_, a2⟩
            show f.to = 0 ∧ SegOk (t.s1.read n).2.2.first (t.s1.read n).2.2.asked t.w1 f.g ∨ f.to = 1 ∧ _
            rw [f1, f2]; exact a1
          al := h.al, wl1 := h.wl1, wl0 := h.wl0, now := h.now, ck := ⟨h.ck.1, by have := h.ck.2; show (t.s1.read n).2.2.clock ≤ t.now; rw [read_ck]; exact this⟩ }
theorem TkOk.arrive0 {t : Tk} {P : List (Value × List Int)} {j : Nat} {f : Fl} (h : TkOk t P j) (hj : j ≤ 100) (hf : f ∈ t.air) (h0 : f.to = 0) : TkOk { t with s0 := t.s0.input f.g t.now } P j := by
  obtain ⟨a1, ⟨_, a2⟩, _⟩ := h.air f hf
  have a3 : SegOk t.s1.first t.s1.asked t.w1 f.g := by
    rcases a1 with ⟨_, a1⟩ | ⟨a0, _⟩
    · exact a1
    · omega
  obtain ⟨f1, f2⟩ := input_f t.s0 f.g t.now
  have hwl := h.wl1
  exact { i0 := h.i0.input a2, i1 := h.i1, n0 := h.n0.input h.i0.ok a2, n1 := h.n1, v0 := h.v0.input h.i1.ok.first (by omega) h.i0.ok a3 a2
          v1 := by
            show Rcv (t.s0.input f.g t.now).first (t.s0.input f.g t.now).asked t.w0 t.s1 t.r1
            rw [f1, f2]; exact h.v1
          air := fun f' hf' => by
            obtain ⟨a1, a2⟩ := h.air f' hf'
            refine ⟨?_, a2⟩
            show f'.to = 0 ∧ _ ∨ f'.to = 1 ∧ SegOk (t.s0.input f.g t.now).first (t.s0.input f.g t.now).asked t.w0 f'.g
            rw [f1, f2]; exact a1
          al := h.al, wl0 := h.wl0, wl1 := h.wl1, now := h.now, ck := ⟨by have := h.ck.1; exact input_ck this, h.ck.2⟩ }
theorem TkOk.arrive1 {t : Tk} {P : List (Value × List Int)} {j : Nat} {f : Fl} (h : TkOk t P j) (hj : j ≤ 100) (hf : f ∈ t.air) (h0 : f.to = 1) : TkOk { t with s1 := t.s1.input f.g t.now } P j := by
  obtain ⟨a1, ⟨_, a2⟩, _⟩ := h.air f hf
  have a3 : SegOk t.s0.first t.s0.asked t.w0 f.g := by
    rcases a1.symm with ⟨_, a1⟩ | ⟨a0, _⟩
    · exact a1
    · omega
  obtain ⟨f1, f2⟩ := input_f t.s1 f.g t.now
  have hwl := h.wl0
  exact { i1 := h.i1.input a2, i0 := h.i0, n1 := h.n1.input h.i1.ok a2, n0 := h.n0, v1 := h.v1.input h.i0.ok.first (by omega) h.i1.ok a3 a2
          v0 := by
            show Rcv (t.s1.input f.g t.now).first (t.s1.input f.g t.now).asked t.w1 t.s0 t.r0
            rw [f1, f2]; exact h.v0
          air := fun f' hf' => by
            obtain ⟨a1, a2⟩ := h.air f' hf'
            refine ⟨?_, a2⟩
            show f'.to = 0 ∧ SegOk (t.s1.input f.g t.now).first (t.s1.input f.g t.now).asked t.w1 f'.g ∨ f'.to = 1 ∧ _
            rw [f1, f2]; exact a1
          al := h.al, wl1 := h.wl1, wl0 := h.wl0, now := h.now, ck := ⟨h.ck.1, by have := h.ck.2; exact input_ck this⟩ }
theorem TkOk.output0 {t : Tk} {P P' : List (Value × List Int)} {j : Nat} {la : List (Sg × Value)} (h : TkOk t P j) (hb : t.air.length + 5001 ≤ 5001 * j) (hla : la.map (·.1) = (t.s0.output t.now).2.1) (hP : ∀ x ∈ P, x ∈ P') (hl : ∀ x ∈ la, (x.2, x.1.data) ∈ P' ∧ ∃ a c, x.2 = .slice a x.1.data.length c) :
    TkOk { t with s0 := (t.s0.output t.now).2.2, air := t.air ++ la.map (mkFl 1) } P' j := by
  obtain ⟨k1, k2, f1, f2, k3⟩ := output_ok (now := t.now) h.i0.ok h.n0
  have hv := out_v (now := t.now) h.i0.ok
  obtain ⟨hol, _⟩ := out_len (now := t.now) h.i0.ok
  exact { i0 := h.i0.output, i1 := h.i1, n0 := k1, n1 := h.n1, v0 := k3 _ _ _ _ h.v0
          v1 := by
            show Rcv (t.s0.output t.now).2.2.first (t.s0.output t.now).2.2.asked t.w0 t.s1 t.r1
            rw [f1, f2]; exact h.v1
          air := fun f hf => by
            rcases List.mem_append.1 hf with hf | hf
            · obtain ⟨a1, a2, a3, a4⟩ := h.air f hf
              refine ⟨?_, a2, hP _ a3, a4⟩
              show f.to = 0 ∧ _ ∨ f.to = 1 ∧ SegOk (t.s0.output t.now).2.2.first (t.s0.output t.now).2.2.asked t.w0 f.g
              rw [f1, f2]; exact a1
            · obtain ⟨x, hx, rfl⟩ := List.mem_map.1 hf
              have hg : x.1 ∈ (t.s0.output t.now).2.1 := by rw [← hla]; exact List.mem_map_of_mem hx
              refine ⟨.inr ⟨rfl, ?_⟩, hv _ hg, hl x hx⟩
              show SegOk (t.s0.output t.now).2.2.first (t.s0.output t.now).2.2.asked t.w0 x.1
              rw [f1, f2]; exact k2 _ hg
          al := by
            have h1 := congrArg List.length hla
            rw [List.length_map] at h1
            show (t.air ++ la.map (mkFl 1)).length ≤ _
            rw [List.length_append, List.length_map]
            omega
          wl0 := h.wl0, wl1 := h.wl1, now := h.now, ck := ⟨by have := h.ck.1; exact output_ck this, h.ck.2⟩ }
theorem TkOk.output1 {t : Tk} {P P' : List (Value × List Int)} {j : Nat} {la : List (Sg × Value)} (h : TkOk t P j) (hb : t.air.length + 5001 ≤ 5001 * j) (hla : la.map (·.1) = (t.s1.output t.now).2.1) (hP : ∀ x ∈ P, x ∈ P') (hl : ∀ x ∈ la, (x.2, x.1.data) ∈ P' ∧ ∃ a c, x.2 = .slice a x.1.data.length c) :
    TkOk { t with s1 := (t.s1.output t.now).2.2, air := t.air ++ la.map (mkFl 0) } P' j := by
  obtain ⟨k1, k2, f1, f2, k3⟩ := output_ok (now := t.now) h.i1.ok h.n1
  have hv := out_v (now := t.now) h.i1.ok
  obtain ⟨hol, _⟩ := out_len (now := t.now) h.i1.ok
  exact { i1 := h.i1.output, i0 := h.i0, n1 := k1, n0 := h.n0, v1 := k3 _ _ _ _ h.v1
          v0 := by
            show Rcv (t.s1.output t.now).2.2.first (t.s1.output t.now).2.2.asked t.w1 t.s0 t.r0
            rw [f1, f2]; exact h.v0
          air := fun f hf => by
            rcases List.mem_append.1 hf with hf | hf
            · obtain ⟨a1, a2, a3, a4⟩ := h.air f hf
              refine ⟨?_, a2, hP _ a3, a4⟩
              show f.to = 0 ∧ SegOk (t.s1.output t.now).2.2.first (t.s1.output t.now).2.2.asked t.w1 f.g ∨ f.to = 1 ∧ _
              rw [f1, f2]; exact a1
            · obtain ⟨x, hx, rfl⟩ := List.mem_map.1 hf
              have hg : x.1 ∈ (t.s1.output t.now).2.1 := by rw [← hla]; exact List.mem_map_of_mem hx
              refine ⟨.inl ⟨rfl, ?_⟩, hv _ hg, hl x hx⟩
              show SegOk (t.s1.output t.now).2.2.first (t.s1.output t.now).2.2.asked t.w1 x.1
              rw [f1, f2]; exact k2 _ hg
          al := by
            have h1 := congrArg List.length hla
            rw [List.length_map] at h1
            show (t.air ++ la.map (mkFl 0)).length ≤ _
            rw [List.length_append, List.length_map]
            omega
          wl1 := h.wl1, wl0 := h.wl0, now := h.now, ck := ⟨h.ck.1, by have := h.ck.2; exact output_ck this⟩ }
theorem TkOk.lose {t : Tk} {P : List (Value × List Int)} {j : Nat} {l : List Fl} (h : TkOk t P j) (hs : ∀ f ∈ l, f ∈ t.air) (hl : l.length ≤ t.air.length) : TkOk { t with air := l } P j :=
  { i0 := h.i0, i1 := h.i1, n0 := h.n0, n1 := h.n1, v0 := h.v0, v1 := h.v1, air := fun f hf => h.air f (hs f hf), al := Nat.le_trans hl h.al, wl0 := h.wl0, wl1 := h.wl1, now := h.now, ck := h.ck }
end Go.E.St
/- A talk: one step. -/
namespace Go.E.St
open Go Go.E Go.Proofs.Ytamcfhhcmjagnaa Go.Proofs
set_option linter.unusedVariables false
set_option linter.unusedSimpArgs false
set_option maxRecDepth 100000
structure TkX where
  p0 : Nat
  p1 : Nat
  q0 : Nat
  q1 : Nat
  aa : Option Addr
  ca : Nat
  w0 : Value
  w1 : Value
  r0 : Value
  r1 : Value
def tkL (b : Nat) (t : Tk) (P : List (Value × List Int)) (x : TkX) : List Asn :=
  [pto b (.cells (tkC x.p0 x.p1 x.q0 x.q1 (.slice x.aa t.air.length x.ca) t.now x.w0 x.w1 x.r0 x.r1) 0 false), repC x.p0 t.s0, repC x.p1 t.s1, repD x.q0 t.s0, repD x.q1 t.s1, sl 6 (.slice x.aa t.air.length x.ca) (t.air.flatMap Fl.cells),
    sl 1 x.w0 (u8s t.w0), sl 1 x.w1 (u8s t.w1), sl 1 x.r0 (u8s t.r0), sl 1 x.r1 (u8s t.r1), pool P]
def repT (b : Nat) (t : Tk) (P : List (Value × List Int)) : Asn := exA fun x : TkX => seps (tkL b t P x)
section
variable {B H : AHeap} {As : List Asn}
theorem openT {b : Nat} {t : Tk} {P : List (Value × List Int)} (h : S B H (repT b t P :: As)) : ∃ x : TkX, S B H (pto b (.cells (tkC x.p0 x.p1 x.q0 x.q1 (.slice x.aa t.air.length x.ca) t.now x.w0 x.w1 x.r0 x.r1) 0 false) :: repC x.p0 t.s0 :: repC x.p1 t.s1 :: repD x.q0 t.s0 :: repD x.q1 t.s1 :: sl 6 (.slice x.aa t.air.length x.ca) (t.air.flatMap Fl.cells) ::
    sl 1 x.w0 (u8s t.w0) :: sl 1 x.w1 (u8s t.w1) :: sl 1 x.r0 (u8s t.r0) :: sl 1 x.r1 (u8s t.r1) :: pool P :: As) := by
  obtain ⟨x, h⟩ := S.unex h
  exact ⟨x, S.unseps h⟩
theorem closeT {b p0 p1 q0 q1 : Nat} {aa : Option Addr} {ca : Nat} {w0 w1 r0 r1 : Value} {t : Tk} {P : List (Value × List Int)} (h : S B H (pto b (.cells (tkC p0 p1 q0 q1 (.slice aa t.air.length ca) t.now w0 w1 r0 r1) 0 false) :: repC p0 t.s0 :: repC p1 t.s1 :: repD q0 t.s0 :: repD q1 t.s1 :: sl 6 (.slice aa t.air.length ca) (t.air.flatMap Fl.cells) ::
    sl 1 w0 (u8s t.w0) :: sl 1 w1 (u8s t.w1) :: sl 1 r0 (u8s t.r0) :: sl 1 r1 (u8s t.r1) :: pool P :: As)) : S B H (repT b t P :: As) :=
  S.exI (X := TkX) ⟨p0, p1, q0, q1, aa, ca, w0, w1, r0, r1⟩ (S.seps (L := tkL b t P ⟨p0, p1, q0, q1, aa, ca, w0, w1, r0, r1⟩) h)
structure StF where
  kind : Int
  which : Int
  n : Int
  time : Int
  data : List Int
  a : Option Addr
  c : Nat
def StF.cells (x : StF) : List Value := [.int .i64 x.kind, .int .i64 x.which, .int .i64 x.n, .int .u8 x.time, .slice x.a x.data.length x.c]
theorem wrap_u64 (n : Int) : IntKind.u64.wrap n = n % 18446744073709551616 := by
  unfold IntKind.wrap; simp [IntKind.bits, IntKind.signed]
theorem fl_take (l : List Fl) (k : Nat) : (l.flatMap Fl.cells).take (k * 6) = (l.take k).flatMap Fl.cells := by
  induction k generalizing l with
  | zero => simp
  | succ k ih => cases l with
    | nil => simp
    | cons f l =>
      have e : (Fl.cells f).length = 6 := rfl
      rw [List.flatMap_cons, List.take_succ_cons, List.flatMap_cons, ← ih l, List.take_append, e, List.take_of_length_le (by omega), show (k + 1) * 6 - 6 = k * 6 by omega]
theorem fl_drop (l : List Fl) (k : Nat) : (l.flatMap Fl.cells).drop (k * 6) = (l.drop k).flatMap Fl.cells := by
  induction k generalizing l with
  | zero => simp
  | succ k ih => cases l with
    | nil => simp
    | cons f l =>
      have e : (Fl.cells f).length = 6 := rfl
      rw [List.flatMap_cons, List.drop_succ_cons, ← ih l, List.drop_append, e, List.drop_of_length_le (by omega), List.nil_append, show (k + 1) * 6 - 6 = k * 6 by omega]
theorem fl_del (l : List Fl) (k : Nat) : (l.flatMap Fl.cells).take (k * 6) ++ (l.flatMap Fl.cells).drop ((k + 1) * 6) = (l.take k ++ l.drop (k + 1)).flatMap Fl.cells := by
  rw [List.flatMap_append, fl_take, fl_drop]
theorem L33 {b i : Nat} {t : Tk} {P : List (Value × List Int)} {x : StF} (ht : TkOk t P i) (hi : i ≤ 60) (htm : 0 ≤ x.time ∧ x.time ≤ 255) (hk : -9223372036854775808 ≤ x.kind ∧ x.kind ≤ 9223372036854775807) (hw : -9223372036854775808 ≤ x.which ∧ x.which ≤ 9223372036854775807) (hn : -9223372036854775808 ≤ x.n ∧ x.n ≤ 9223372036854775807) (hdl : x.data.length ≤ 140737488351232)
    (hd : RD B As 1 (.slice x.a x.data.length x.c) (u8s x.data)) (hS : S B H (repT b t P :: As)) :
    wpF C 33 [ptC b, .agg ⟨x.cells⟩] H fun v H' => v = .bool true ∧ ∃ t' P', TkOk t' P' (i + 1) ∧ (∀ y ∈ P, y ∈ P') ∧ S B H' (repT b t' P' :: As) := by
  have hnow := ht.now
  have hwl0 := ht.wl0
  have hwl1 := ht.wl1
  have hal := ht.al
  have htk := ht.tick htm
  obtain ⟨X, hX⟩ := openT hS
  obtain ⟨p0, p1, q0, q1, aa, ca, w0, w1, r0, r1⟩ := X
  dsimp only at hX
  refine wpF_ofW o33 rfl rfl ?_
  clear hS
  have hS := hX
  clear hX
  unfold tkC ptC at hS
  unfold ptC StF.cells
  refine zsr ?_; refine wpO_cons ?_; refine op1_boxNS rfl rfl rfl hS ?_; intro p2 H1 hS; refine zw1 ?_; refine zns ?_; refine wp_seq ?_; refine wp_regionD ?_; refine zd1 ?_; refine zm ?_; refine zg ?_; refine zj (S.g1 hS) ?_; refine zg ?_; refine zj (S.g0 hS) ?_; refine wpD_cons ?_; refine op1_convInt rfl rfl (by exact wrap_i64 (by omega) (by omega)) ?_; refine wpD_cons ?_; refine op1_add rfl rfl rfl (by exact wrap_i64 (by omega) (by omega)) ?_; refine zm ?_; refine zg ?_; refine wpD_cons ?_; (refine op1_store1S rfl rfl (by (conv => lhs; whnf) <;> rfl) rfl rfl (S.up1 hS) rfl ?_; intro H2 hS; replace hS := S.dn1 hS); refine wpD_nil ?_; refine dk_of ?_ ?_; (iterate 3 refine chk_skip ?_); refine zx 8 ?_ ?_; refine zy 1 ?_ ?_; exact chk_load rfl (by exact S.g1 (by assumption)) rfl rfl; exact chkFs_nil; refine chk_skip ?_; refine zx 6 ?_ ?_; refine zy 1 ?_ ?_; exact chk_load rfl (by exact S.g0 (by assumption)) rfl rfl; exact chkFs_nil; (iterate 5 refine chk_skip ?_); exact chk_end; refine seq_normal ?_; refine zsr ?_; refine zf ?_; refine zh (S.g0 hS) ?_; refine wpO_cons ?_
  have h9 := closeT (t := { t with now := t.now + x.time }) (S.dn11 hS)
  obtain ⟨t1, e1⟩ : ∃ t1 : Tk, t1 = { t with now := t.now + x.time } := ⟨_, rfl⟩
  have f1 : t1.air.length = t.air.length ∧ t1.w0.length = t.w0.length ∧ t1.w1.length = t.w1.length := by rw [e1]; exact ⟨rfl, rfl, rfl⟩
  rw [← e1] at h9 htk
  clear e1 hS
  obtain ⟨u, hu⟩ : ∃ z, z = IntKind.u64.wrap x.kind := ⟨_, rfl⟩
  have hub : 0 ≤ u ∧ u ≤ 18446744073709551615 := by rw [hu, wrap_u64]; omega
  refine op1_convIntW rfl rfl ?_
  rw [← hu]
  obtain ⟨K, hK, hK10⟩ : ∃ K : Nat, u.tmod 11 = K ∧ K ≤ 10 := ⟨(u.tmod 11).toNat, by rw [Int.tmod_eq_emod_of_nonneg hub.1]; omega, by rw [Int.tmod_eq_emod_of_nonneg hub.1]; omega⟩
  obtain ⟨X, hX⟩ := openT h9
  obtain ⟨p0, p1, q0, q1, aa, ca, w0, w1, r0, r1⟩ := X
  dsimp only at hX
  have hS := hX
  clear hX
  unfold tkC ptC at hS
  refine wpO_cons ?_; refine op1_rem rfl rfl rfl (by omega) ?_; refine wpO_cons ?_; refine op1_convInt rfl rfl (by exact wrap_i64 (by omega) (by omega)) ?_; refine zw1 ?_; refine zns ?_
  rw [hK]
  obtain ⟨sd, hsd, hsd2⟩ : ∃ sd : Nat, (K : Int).tmod 2 = sd ∧ sd = K % 2 := ⟨K % 2, by rw [Int.tmod_eq_emod_of_nonneg (by omega)]; omega, rfl⟩
  refine zsr ?_; refine zw1 ?_; refine wpO_cons ?_; refine op1_rem rfl rfl rfl (by omega) ?_; refine zw1 ?_; refine zw1 ?_; refine zns ?_
  rw [hsd]
  refine wp_cut [7] (fun vs H' => ∃ wh : Nat, vs = [.int .i64 wh] ∧ (0 < t1.air.length → wh < t1.air.length) ∧ H2 = H') ?_ ?_
  · refine zsr ?_; refine zw1 ?_; refine zn ?_; refine zf ?_; refine zh (S.g0 hS) ?_; refine wpO_cons ?_; refine op1_len rfl rfl ?_; refine wpO_cons ?_; refine op1_gtr rfl rfl rfl ?_; refine zns ?_
    refine wp_dec rfl (fun h1 => ?_) (fun h1 => ?_)
    rotate_left
    · refine wp_skip ?_; refine cut1 (by (conv => lhs; whnf) <;> rfl) ?_
      exact ⟨0, rfl, fun h => by omega, rfl⟩
    refine wp_regionD ?_; refine zg ?_; refine zj (S.g11 hS) ?_; refine wpD_cons ?_
    refine op1_convIntW rfl rfl ?_
    obtain ⟨z, hz⟩ : ∃ z, z = IntKind.u64.wrap x.which := ⟨_, rfl⟩
    have hzb : 0 ≤ z ∧ z ≤ 18446744073709551615 := by rw [hz, wrap_u64]; omega
    rw [← hz]
    have hwm : 0 ≤ z.tmod t1.air.length ∧ z.tmod t1.air.length < t1.air.length := by
      rw [Int.tmod_eq_emod_of_nonneg hzb.1]
      exact ⟨Int.emod_nonneg _ (by omega), Int.emod_lt_of_pos _ (by omega)⟩
    obtain ⟨wh, hwh⟩ : ∃ wh : Nat, z.tmod t1.air.length = wh := ⟨(z.tmod t1.air.length).toNat, by omega⟩
    refine zd1 ?_; refine zm ?_; refine zg ?_; refine zj (S.g0 hS) ?_; refine wpD_cons ?_; refine op1_len rfl rfl ?_; refine wpD_cons ?_
    refine op1_convInt rfl rfl (by rw [wrap_u64]; omega) ?_
    refine wpD_cons ?_; refine op1_rem rfl rfl rfl (by omega) ?_; refine wpD_cons ?_; refine op1_convInt rfl rfl (by exact wrap_i64 (by omega) (by omega)) ?_; refine zd1 ?_; refine wpD_nil ?_; refine dk_of ?_ ?_; refine chk_skip ?_; refine zx 11 ?_ ?_; refine zy 0 ?_ ?_; exact zq (S.g11 hS); exact chkFs_nil; (iterate 4 refine chk_skip ?_); refine zx 6 ?_ ?_; refine zy 0 ?_ ?_; exact zq (S.g0 hS); exact chkFs_nil; refine zx 5 ?_ ?_; refine zy 0 ?_ ?_; exact chk_len rfl rfl; exact chkFs_nil; (iterate 4 refine chk_skip ?_); exact chk_end; refine cut1 (by (conv => lhs; whnf) <;> rfl) ?_
    rw [hwh]
    exact ⟨wh, rfl, fun _ => by omega, rfl⟩
  rintro vs2 T2 H3 ⟨wh, rfl, hwh, rfl⟩
  refine zsr ?_; refine zw1 ?_; refine zns ?_
  refine wp_cut [8] (fun vs H' => vs = [.bool true] ∧ ∃ t' P', TkOk t' P' (i + 1) ∧ (∀ y ∈ P, y ∈ P') ∧ ∃ bx, S B H' (repT b t' P' :: pto p2 bx :: As)) ?_ ?_
  · have hKs : K = 0 ∨ K = 1 ∨ K = 2 ∨ K = 3 ∨ K = 4 ∨ K = 5 ∨ K = 6 ∨ K = 7 ∨ K = 8 ∨ K = 9 ∨ K = 10 := by omega
    rcases hKs with rfl | rfl | rfl | rfl | rfl | rfl | rfl | rfl | rfl | rfl | rfl
    · obtain rfl : sd = 0 := by omega
      refine wp_block ?_; refine zsr ?_; refine zw1 ?_; refine wpO_cons ?_; refine op1_lss rfl rfl rfl ?_; refine zw1 ?_; refine zns ?_; refine wp_true rfl ?_; refine wp_region ?_; refine zw1 ?_; refine zw1 ?_; refine zf ?_; refine zh (S.g11 hS) ?_; refine zf ?_; refine zh (S.g11 hS) ?_; refine wpO_cons ?_; refine op1_len rfl rfl ?_; refine wpO_cons ?_; refine op1_min rfl rfl rfl ?_; refine wpO_cons ?_
      obtain ⟨m, hm⟩ : ∃ m : Nat, m = min x.data.length 300 := ⟨_, rfl⟩
      rw [show min (x.data.length : Int) 300 = (m : Int) by omega]
      have hSA := (S.drop (S.drop (S.drop (S.drop (S.drop (S.drop (S.drop (S.drop (S.drop (S.drop (S.drop (S.drop hS))))))))))))
      have hcap : x.data.length ≤ x.c := by obtain ⟨_, hz, _⟩ := hd _ hSA; exact hz.le_cap
      refine op1_sliceD rfl rfl hd hSA (bnds_hi (by omega) (by omega)) (by omega) (by simp only [Int.toNat_natCast]; omega) ?_
      simp only [Int.toNat_natCast, Nat.zero_mul, List.drop_zero, Nat.sub_zero, Nat.mul_one]
      intro a5 c5 hd5 hck
      clear hck
      rw [u8s_take] at hd5
      have hmt : (x.data.take m).length = m := by rw [List.length_take]; omega
      refine wpO_cons ?_; refine op1_call3 rfl (by (conv => lhs; whnf) <;> rfl) (by (conv => lhs; whnf) <;> rfl) (by (conv => lhs; whnf) <;> rfl) ?_
      refine wpF_mono (L61a (w := t1.w0) htk.i0.ok (RD.cons (RD.cons (RD.cons (RD.cons (RD.cons (RD.cons (RD.cons (RD.cons hd5)))))))) (by omega) (by have := htk.n0.wl; omega) (S.up3 (S.up3 (S.up4 (S.up6 hS))))) ?_
      clear hS
      rintro _ H5 ⟨rfl, w', m', hm', hml', hS⟩
      refine zw1 ?_; refine wpO_nil ?_; refine block_normal ?_; refine cut1 (by (conv => lhs; whnf) <;> rfl) ?_
      exact ⟨rfl, _, P, htk.write0 (by omega) (by omega) (by omega) hm' hml', fun _ h => h, _, closeT (t := { t1 with s0 := (t1.s0.write (x.data.take m)).2.2, w0 := t1.w0 ++ (x.data.take m).take m' }) (S.dn6 (S.dn4 (S.dn3 (S.dn3 hS))))⟩
    · obtain rfl : sd = 1 := by omega
      refine wp_block ?_; refine zsr ?_; refine zw1 ?_; refine wpO_cons ?_; refine op1_lss rfl rfl rfl ?_; refine zw1 ?_; refine zns ?_; refine wp_true rfl ?_; refine wp_region ?_; refine zw1 ?_; refine zw1 ?_; refine zf ?_; refine zh (S.g11 hS) ?_; refine zf ?_; refine zh (S.g11 hS) ?_; refine wpO_cons ?_; refine op1_len rfl rfl ?_; refine wpO_cons ?_; refine op1_min rfl rfl rfl ?_; refine wpO_cons ?_
      obtain ⟨m, hm⟩ : ∃ m : Nat, m = min x.data.length 300 := ⟨_, rfl⟩
      rw [show min (x.data.length : Int) 300 = (m : Int) by omega]
      have hSA := (S.drop (S.drop (S.drop (S.drop (S.drop (S.drop (S.drop (S.drop (S.drop (S.drop (S.drop (S.drop hS))))))))))))
      have hcap : x.data.length ≤ x.c := by obtain ⟨_, hz, _⟩ := hd _ hSA; exact hz.le_cap
      refine op1_sliceD rfl rfl hd hSA (bnds_hi (by omega) (by omega)) (by omega) (by simp only [Int.toNat_natCast]; omega) ?_
      simp only [Int.toNat_natCast, Nat.zero_mul, List.drop_zero, Nat.sub_zero, Nat.mul_one]
      intro a5 c5 hd5 hck
      clear hck
      rw [u8s_take] at hd5
      have hmt : (x.data.take m).length = m := by rw [List.length_take]; omega
      refine wpO_cons ?_; refine op1_call3 rfl (by (conv => lhs; whnf) <;> rfl) (by (conv => lhs; whnf) <;> rfl) (by (conv => lhs; whnf) <;> rfl) ?_
      refine wpF_mono (L61b (w := t1.w1) htk.i1.ok (RD.cons (RD.cons (RD.cons (RD.cons (RD.cons (RD.cons (RD.cons (RD.cons hd5)))))))) (by omega) (by have := htk.n1.wl; omega) (S.up3 (S.up4 (S.up5 (S.up7 hS))))) ?_
      clear hS
      rintro _ H5 ⟨rfl, w', m', hm', hml', hS⟩
      refine zw1 ?_; refine wpO_nil ?_; refine block_normal ?_; refine cut1 (by (conv => lhs; whnf) <;> rfl) ?_
      exact ⟨rfl, _, P, htk.write1 (by omega) (by omega) (by omega) hm' hml', fun _ h => h, _, closeT (t := { t1 with s1 := (t1.s1.write (x.data.take m)).2.2, w1 := t1.w1 ++ (x.data.take m).take m' }) (S.dn7 (S.dn5 (S.dn4 (S.dn3 hS))))⟩
    · obtain rfl : sd = 0 := by omega
      refine wp_block ?_; refine zsr ?_; refine zw1 ?_; refine wpO_cons ?_; refine op1_lss rfl rfl rfl ?_; refine zw1 ?_; refine zns ?_; refine wp_false rfl ?_; refine zsr ?_; refine zw1 ?_; refine wpO_cons ?_; refine op1_lss rfl rfl rfl ?_; refine zw1 ?_; refine zns ?_; refine wp_true rfl ?_; refine wp_region ?_; refine zw1 ?_; refine zw1 ?_; refine zf ?_; refine zh (S.g11 hS) ?_; refine wpO_cons ?_; refine op1_call3 rfl (by (conv => lhs; whnf) <;> rfl) (by (conv => lhs; whnf) <;> rfl) (by (conv => lhs; whnf) <;> rfl) ?_
      refine wpF_mono (L62a (r := t1.r0) htk.i0.ok (by have := htk.v0.pre.length_le; have := htk.n1.wl; omega) (S.up3 (S.up3 (S.up4 (S.up8 hS))))) ?_
      clear hS
      rintro _ H5 ⟨rfl, r', hS⟩
      refine zw1 ?_; refine wpO_nil ?_; refine block_normal ?_; refine cut1 (by (conv => lhs; whnf) <;> rfl) ?_
      exact ⟨rfl, _, P, htk.read0 (n := x.n), fun _ h => h, _, closeT (t := { t1 with s0 := (t1.s0.read x.n).2.2, r0 := t1.r0 ++ (t1.s0.read x.n).1 }) (S.dn8 (S.dn4 (S.dn3 (S.dn3 hS))))⟩
    · obtain rfl : sd = 1 := by omega
      refine wp_block ?_; refine zsr ?_; refine zw1 ?_; refine wpO_cons ?_; refine op1_lss rfl rfl rfl ?_; refine zw1 ?_; refine zns ?_; refine wp_false rfl ?_; refine zsr ?_; refine zw1 ?_; refine wpO_cons ?_; refine op1_lss rfl rfl rfl ?_; refine zw1 ?_; refine zns ?_; refine wp_true rfl ?_; refine wp_region ?_; refine zw1 ?_; refine zw1 ?_; refine zf ?_; refine zh (S.g11 hS) ?_; refine wpO_cons ?_; refine op1_call3 rfl (by (conv => lhs; whnf) <;> rfl) (by (conv => lhs; whnf) <;> rfl) (by (conv => lhs; whnf) <;> rfl) ?_
      refine wpF_mono (L62b (r := t1.r1) htk.i1.ok (by have := htk.v1.pre.length_le; have := htk.n0.wl; omega) (S.up3 (S.up4 (S.up5 (S.up9 hS))))) ?_
      clear hS
      rintro _ H5 ⟨rfl, r', hS⟩
      refine zw1 ?_; refine wpO_nil ?_; refine block_normal ?_; refine cut1 (by (conv => lhs; whnf) <;> rfl) ?_
      exact ⟨rfl, _, P, htk.read1 (n := x.n), fun _ h => h, _, closeT (t := { t1 with s1 := (t1.s1.read x.n).2.2, r1 := t1.r1 ++ (t1.s1.read x.n).1 }) (S.dn9 (S.dn5 (S.dn4 (S.dn3 hS))))⟩
    · obtain rfl : sd = 0 := by omega
      have hT := hS
      refine wp_block ?_; refine zsr ?_; refine zw1 ?_; refine wpO_cons ?_; refine op1_lss rfl rfl rfl ?_; refine zw1 ?_; refine zns ?_; refine wp_false rfl ?_; refine zsr ?_; refine zw1 ?_; refine wpO_cons ?_; refine op1_lss rfl rfl rfl ?_; refine zw1 ?_; refine zns ?_; refine wp_false rfl ?_; refine zsr ?_; refine zw1 ?_; refine wpO_cons ?_; refine op1_lss rfl rfl rfl ?_; refine zw1 ?_; refine zns ?_; refine wp_true rfl ?_; refine wp_regionD ?_; refine zd1 ?_; refine zd1 ?_; refine zm ?_; refine zg ?_; refine wpD_cons ?_; refine op1_iaddrArr rfl rfl rfl (by omega) (by omega) ?_; refine zj (S.g0 hT) ?_; refine zd1 ?_; refine zd1 ?_; refine zm ?_; refine zg ?_; refine wpD_cons ?_; refine op1_iaddrArr rfl rfl rfl (by omega) (by omega) ?_; refine zj (S.g0 hT) ?_; refine wpD_cons ?_; refine op1_call1 rfl (by (conv => lhs; whnf) <;> rfl) ?_
      refine wpF_mono (L26 (S.up1 hS)) ?_
      clear hS
      rintro _ H5 ⟨rfl, hS⟩
      have hT2 := S.up1 hS
      refine wpD_cons ?_; refine op1_call1 rfl (by (conv => lhs; whnf) <;> rfl) ?_
      refine wpF_mono (L52 (S.up3 hS)) ?_
      clear hS
      rintro _ H6 ⟨rfl, hS⟩
      refine wpD_cons ?_; refine op1_eqlI_s rfl rfl rfl ?_; refine zd1 ?_; refine wpD_nil ?_; refine dk_of ?_ ?_; (iterate 5 refine chk_skip ?_); refine zx 11 ?_ ?_; refine zy 4 ?_ ?_; exact zq (S.g0 hT); exact chkFs_nil; (iterate 5 refine chk_skip ?_); refine zx 5 ?_ ?_; refine zy 4 ?_ ?_; exact zq (S.g0 hT); refine zy 3 ?_ ?_; exact zq (S.g0 hT2); exact chkFs_nil; (iterate 4 refine chk_skip ?_); exact chk_end; refine block_normal ?_; refine cut1 (by (conv => lhs; whnf) <;> rfl) ?_
      exact ⟨rfl, _, P, htk.close0, fun _ h => h, _, closeT (t := { t1 with s0 := t1.s0.close.2 }) (S.dn1 (S.dn3 hS))⟩
    · obtain rfl : sd = 1 := by omega
      have hT := hS
      refine wp_block ?_; refine zsr ?_; refine zw1 ?_; refine wpO_cons ?_; refine op1_lss rfl rfl rfl ?_; refine zw1 ?_; refine zns ?_; refine wp_false rfl ?_; refine zsr ?_; refine zw1 ?_; refine wpO_cons ?_; refine op1_lss rfl rfl rfl ?_; refine zw1 ?_; refine zns ?_; refine wp_false rfl ?_; refine zsr ?_; refine zw1 ?_; refine wpO_cons ?_; refine op1_lss rfl rfl rfl ?_; refine zw1 ?_; refine zns ?_; refine wp_true rfl ?_; refine wp_regionD ?_; refine zd1 ?_; refine zd1 ?_; refine zm ?_; refine zg ?_; refine wpD_cons ?_; refine op1_iaddrArr rfl rfl rfl (by omega) (by omega) ?_; refine zj (S.g0 hT) ?_; refine zd1 ?_; refine zd1 ?_; refine zm ?_; refine zg ?_; refine wpD_cons ?_; refine op1_iaddrArr rfl rfl rfl (by omega) (by omega) ?_; refine zj (S.g0 hT) ?_; refine wpD_cons ?_; refine op1_call1 rfl (by (conv => lhs; whnf) <;> rfl) ?_
      refine wpF_mono (L26 (S.up2 hS)) ?_
      clear hS
      rintro _ H5 ⟨rfl, hS⟩
      have hT2 := S.up1 hS
      refine wpD_cons ?_; refine op1_call1 rfl (by (conv => lhs; whnf) <;> rfl) ?_
      refine wpF_mono (L52 (S.up4 hS)) ?_
      clear hS
      rintro _ H6 ⟨rfl, hS⟩
      refine wpD_cons ?_; refine op1_eqlI_s rfl rfl rfl ?_; refine zd1 ?_; refine wpD_nil ?_; refine dk_of ?_ ?_; (iterate 5 refine chk_skip ?_); refine zx 11 ?_ ?_; refine zy 4 ?_ ?_; exact zq (S.g0 hT); exact chkFs_nil; (iterate 5 refine chk_skip ?_); refine zx 5 ?_ ?_; refine zy 4 ?_ ?_; exact zq (S.g0 hT); refine zy 3 ?_ ?_; exact zq (S.g0 hT2); exact chkFs_nil; (iterate 4 refine chk_skip ?_); exact chk_end; refine block_normal ?_; refine cut1 (by (conv => lhs; whnf) <;> rfl) ?_
      exact ⟨rfl, _, P, htk.close1, fun _ h => h, _, closeT (t := { t1 with s1 := t1.s1.close.2 }) (S.dn2 (S.dn4 hS))⟩
    · obtain rfl : sd = 0 := by omega
      refine wp_block ?_; refine zsr ?_; refine zw1 ?_; refine wpO_cons ?_; refine op1_lss rfl rfl rfl ?_; refine zw1 ?_; refine zns ?_; refine wp_false rfl ?_; refine zsr ?_; refine zw1 ?_; refine wpO_cons ?_; refine op1_lss rfl rfl rfl ?_; refine zw1 ?_; refine zns ?_; refine wp_false rfl ?_; refine zsr ?_; refine zw1 ?_; refine wpO_cons ?_; refine op1_lss rfl rfl rfl ?_; refine zw1 ?_; refine zns ?_; refine wp_false rfl ?_; refine zsr ?_; refine zw1 ?_; refine wpO_cons ?_; refine op1_lss rfl rfl rfl ?_; refine zw1 ?_; refine zns ?_; refine wp_true rfl ?_; refine wp_region ?_; refine zw1 ?_; refine zw1 ?_; refine wpO_cons ?_; refine op1_call2 rfl (by (conv => lhs; whnf) <;> rfl) (by (conv => lhs; whnf) <;> rfl) ?_
      refine wpF_mono (L63a (air := t1.air) htk.i0.ok (by omega) (S.up4 (S.up4 (S.up5 (S.up6 (S.up10 hS)))))) ?_
      clear hS
      rintro _ H5 ⟨rfl, aa', ca', la, P', hla, hPP, hlx, hS⟩
      refine zw1 ?_; refine wpO_nil ?_; refine block_normal ?_; refine cut1 (by (conv => lhs; whnf) <;> rfl) ?_
      exact ⟨rfl, _, P', htk.output0 (by omega) hla hPP hlx, hPP, _, closeT (t := { t1 with s0 := (t1.s0.output t1.now).2.2, air := t1.air ++ la.map (mkFl 1) }) (S.dn10 (S.dn6 (S.dn5 (S.dn4 (S.dn4 hS)))))⟩
    · obtain rfl : sd = 1 := by omega
      refine wp_block ?_; refine zsr ?_; refine zw1 ?_; refine wpO_cons ?_; refine op1_lss rfl rfl rfl ?_; refine zw1 ?_; refine zns ?_; refine wp_false rfl ?_; refine zsr ?_; refine zw1 ?_; refine wpO_cons ?_; refine op1_lss rfl rfl rfl ?_; refine zw1 ?_; refine zns ?_; refine wp_false rfl ?_; refine zsr ?_; refine zw1 ?_; refine wpO_cons ?_; refine op1_lss rfl rfl rfl ?_; refine zw1 ?_; refine zns ?_; refine wp_false rfl ?_; refine zsr ?_; refine zw1 ?_; refine wpO_cons ?_; refine op1_lss rfl rfl rfl ?_; refine zw1 ?_; refine zns ?_; refine wp_true rfl ?_; refine wp_region ?_; refine zw1 ?_; refine zw1 ?_; refine wpO_cons ?_; refine op1_call2 rfl (by (conv => lhs; whnf) <;> rfl) (by (conv => lhs; whnf) <;> rfl) ?_
      refine wpF_mono (L63b (air := t1.air) htk.i1.ok (by omega) (S.up4 (S.up5 (S.up6 (S.up6 (S.up10 hS)))))) ?_
      clear hS
      rintro _ H5 ⟨rfl, aa', ca', la, P', hla, hPP, hlx, hS⟩
      refine zw1 ?_; refine wpO_nil ?_; refine block_normal ?_; refine cut1 (by (conv => lhs; whnf) <;> rfl) ?_
      exact ⟨rfl, _, P', htk.output1 (by omega) hla hPP hlx, hPP, _, closeT (t := { t1 with s1 := (t1.s1.output t1.now).2.2, air := t1.air ++ la.map (mkFl 0) }) (S.dn10 (S.dn6 (S.dn6 (S.dn5 (S.dn4 hS)))))⟩
    · obtain rfl : sd = 0 := by omega
      refine wp_block ?_; refine zsr ?_; refine zw1 ?_; refine wpO_cons ?_; refine op1_lss rfl rfl rfl ?_; refine zw1 ?_; refine zns ?_; refine wp_false rfl ?_; refine zsr ?_; refine zw1 ?_; refine wpO_cons ?_; refine op1_lss rfl rfl rfl ?_; refine zw1 ?_; refine zns ?_; refine wp_false rfl ?_; refine zsr ?_; refine zw1 ?_; refine wpO_cons ?_; refine op1_lss rfl rfl rfl ?_; refine zw1 ?_; refine zns ?_; refine wp_false rfl ?_; refine zsr ?_; refine zw1 ?_; refine wpO_cons ?_; refine op1_lss rfl rfl rfl ?_; refine zw1 ?_; refine zns ?_; refine wp_false rfl ?_; refine zsr ?_; refine zw1 ?_; refine zn ?_; refine zf ?_; refine zh (S.g0 hS) ?_; refine wpO_cons ?_; refine op1_len rfl rfl ?_; refine wpO_cons ?_; refine op1_eqlI rfl rfl rfl ?_; refine zw1 ?_; refine zns ?_
      refine wp_dec rfl (fun h1 => ?_) (fun h1 => ?_)
      · refine wp_skip ?_; refine block_normal ?_; refine cut1 (by (conv => lhs; whnf) <;> rfl) ?_
        exact ⟨rfl, _, P, htk, fun _ h => h, _, h9⟩
      have hwl := hwh (by omega)
      obtain ⟨f, hf⟩ : ∃ f, t1.air[wh]? = some f := ⟨t1.air[wh]'(by omega), by simp⟩
      have hfm := List.mem_of_getElem? hf
      obtain ⟨f1', ⟨_, fq, fn⟩, fp, fa, fc, fv⟩ := htk.air f hfm
      have hcut : ((t1.air.flatMap Fl.cells).drop (wh * 6)).take 6 = [.int .i64 f.to, .int .i64 f.g.fl, .int .u32 f.g.seq, .int .u32 f.g.num, .int .i64 f.g.win, .slice fa f.g.data.length fc] := by
        rw [flatMap_cut (f := Fl.cells) (fun _ => rfl) hf, Fl.cells, fv]
        rfl
      obtain ⟨lb1, lo, lcs, rfl, _⟩ := S.slBlk (S.up5 hS) (by omega)
      refine zsr ?_; refine zw1 ?_; refine wpO_cons ?_; refine op1_eqlI rfl rfl rfl ?_; refine zw1 ?_; refine zns ?_; refine wp_false rfl ?_; refine zsr ?_; refine zw1 ?_; refine zw1 ?_; refine zn ?_; refine zf ?_; refine zh (S.g0 hS) ?_; refine zw1 ?_; refine wpO_cons ?_; refine op1_iaddr rfl rfl rfl (by omega) (by omega) ?_; refine wpO_cons ?_; refine op1_loadNL rfl rfl (S.up5 hS) rfl rfl (by omega) rfl ?_; refine wpO_cons ?_; refine op1_call2 rfl (by (conv => lhs; whnf) <;> rfl) (by (conv => lhs; whnf) <;> rfl) ?_
      rw [show (wh : Int).toNat = wh from rfl, hcut]
      have hpr : ∀ {L : List Asn}, RD B (pool P :: L) 1 (.slice fa f.g.data.length fc) (u8s f.g.data) := fun {L} => by
        have := pool_rd (B := B) (As := L) fp
        rw [fv] at this
        exact this
      rcases f1' with ⟨f0, _⟩ | ⟨f0, _⟩
      · rw [f0]
        refine wpF_mono (L65a htk.i0.ok fq fn (RD.cons (RD.cons (RD.cons (RD.cons (RD.cons (RD.cons (RD.cons hpr))))))) (S.up2 (S.up2 (S.up3 hS)))) ?_
        clear hS
        rintro _ H5 ⟨rfl, hS⟩
        replace hS := S.dn3 (S.dn2 (S.dn2 hS))
        have hta := htk.arrive0 (by omega) hfm f0
        refine zw1 ?_; refine zns ?_; refine zsr ?_; refine zw1 ?_; refine wpO_cons ?_; refine op1_eqlI_s rfl rfl rfl ?_; refine zns ?_; refine wp_true rfl ?_; refine wp_region ?_; refine zw1 ?_; refine zw1 ?_; refine zn ?_; refine zf ?_; refine zh (S.g0 hS) ?_; refine zw1 ?_; refine zw1 ?_; refine wpO_cons ?_; refine op1_add rfl rfl rfl (by exact wrap_i64 (by omega) (by omega)) ?_; refine wpO_cons ?_; refine op1_call3 rfl (by (conv => lhs; whnf) <;> rfl) (by (conv => lhs; whnf) <;> rfl) (by (conv => lhs; whnf) <;> rfl) ?_
        refine wpF_mono (L64 wh (wh + 1) (S.up5 hS) (fl_one _ fun f hf => by obtain ⟨_, _, _, a, c, e⟩ := htk.air f hf; exact ⟨a, _, c, e⟩) (by omega) (by omega) (by omega)) ?_
        clear hS
        rintro _ H7 ⟨a7, c7, rfl, hS⟩
        rw [fl_del] at hS
        have hdl : (t1.air.take wh ++ t1.air.drop (wh + 1)).length = t1.air.length - (wh + 1 - wh) := by rw [List.length_append, List.length_take, List.length_drop]; omega
        have hdm : ∀ f ∈ t1.air.take wh ++ t1.air.drop (wh + 1), f ∈ t1.air := fun f hf => by
          rcases List.mem_append.1 hf with hf | hf
          · exact List.mem_of_mem_take hf
          · exact List.mem_of_mem_drop hf
        rw [← hdl] at hS ⊢
        refine zn ?_; refine zf ?_; refine wpO_cons ?_; (refine op1_store1S rfl rfl (by (conv => lhs; whnf) <;> rfl) rfl rfl (S.up1 hS) rfl ?_; intro H3 hS; replace hS := S.dn1 hS); refine wpO_nil ?_; refine block_normal ?_; refine cut1 (by (conv => lhs; whnf) <;> rfl) ?_
        exact ⟨rfl, _, P, hta.lose hdm (by show _ ≤ t1.air.length; omega), fun _ h => h, _, closeT (t := { t1 with s0 := t1.s0.input f.g t1.now, air := t1.air.take wh ++ t1.air.drop (wh + 1) }) (S.dn5 hS)⟩
      · rw [f0]
        refine wpF_mono (L65b htk.i1.ok fq fn (RD.cons (RD.cons (RD.cons (RD.cons (RD.cons (RD.cons (RD.cons hpr))))))) (S.up2 (S.up3 (S.up4 hS)))) ?_
        clear hS
        rintro _ H5 ⟨rfl, hS⟩
        replace hS := S.dn4 (S.dn3 (S.dn2 hS))
        have hta := htk.arrive1 (by omega) hfm f0
        refine zw1 ?_; refine zns ?_; refine zsr ?_; refine zw1 ?_; refine wpO_cons ?_; refine op1_eqlI_s rfl rfl rfl ?_; refine zns ?_; refine wp_true rfl ?_; refine wp_region ?_; refine zw1 ?_; refine zw1 ?_; refine zn ?_; refine zf ?_; refine zh (S.g0 hS) ?_; refine zw1 ?_; refine zw1 ?_; refine wpO_cons ?_; refine op1_add rfl rfl rfl (by exact wrap_i64 (by omega) (by omega)) ?_; refine wpO_cons ?_; refine op1_call3 rfl (by (conv => lhs; whnf) <;> rfl) (by (conv => lhs; whnf) <;> rfl) (by (conv => lhs; whnf) <;> rfl) ?_
        refine wpF_mono (L64 wh (wh + 1) (S.up5 hS) (fl_one _ fun f hf => by obtain ⟨_, _, _, a, c, e⟩ := htk.air f hf; exact ⟨a, _, c, e⟩) (by omega) (by omega) (by omega)) ?_
        clear hS
        rintro _ H7 ⟨a7, c7, rfl, hS⟩
        rw [fl_del] at hS
        have hdl : (t1.air.take wh ++ t1.air.drop (wh + 1)).length = t1.air.length - (wh + 1 - wh) := by rw [List.length_append, List.length_take, List.length_drop]; omega
        have hdm : ∀ f ∈ t1.air.take wh ++ t1.air.drop (wh + 1), f ∈ t1.air := fun f hf => by
          rcases List.mem_append.1 hf with hf | hf
          · exact List.mem_of_mem_take hf
          · exact List.mem_of_mem_drop hf
        rw [← hdl] at hS ⊢
        refine zn ?_; refine zf ?_; refine wpO_cons ?_; (refine op1_store1S rfl rfl (by (conv => lhs; whnf) <;> rfl) rfl rfl (S.up1 hS) rfl ?_; intro H3 hS; replace hS := S.dn1 hS); refine wpO_nil ?_; refine block_normal ?_; refine cut1 (by (conv => lhs; whnf) <;> rfl) ?_
        exact ⟨rfl, _, P, hta.lose hdm (by show _ ≤ t1.air.length; omega), fun _ h => h, _, closeT (t := { t1 with s1 := t1.s1.input f.g t1.now, air := t1.air.take wh ++ t1.air.drop (wh + 1) }) (S.dn5 hS)⟩
    · obtain rfl : sd = 1 := by omega
      refine wp_block ?_; refine zsr ?_; refine zw1 ?_; refine wpO_cons ?_; refine op1_lss rfl rfl rfl ?_; refine zw1 ?_; refine zns ?_; refine wp_false rfl ?_; refine zsr ?_; refine zw1 ?_; refine wpO_cons ?_; refine op1_lss rfl rfl rfl ?_; refine zw1 ?_; refine zns ?_; refine wp_false rfl ?_; refine zsr ?_; refine zw1 ?_; refine wpO_cons ?_; refine op1_lss rfl rfl rfl ?_; refine zw1 ?_; refine zns ?_; refine wp_false rfl ?_; refine zsr ?_; refine zw1 ?_; refine wpO_cons ?_; refine op1_lss rfl rfl rfl ?_; refine zw1 ?_; refine zns ?_; refine wp_false rfl ?_; refine zsr ?_; refine zw1 ?_; refine zn ?_; refine zf ?_; refine zh (S.g0 hS) ?_; refine wpO_cons ?_; refine op1_len rfl rfl ?_; refine wpO_cons ?_; refine op1_eqlI rfl rfl rfl ?_; refine zw1 ?_; refine zns ?_
      refine wp_dec rfl (fun h1 => ?_) (fun h1 => ?_)
      · refine wp_skip ?_; refine block_normal ?_; refine cut1 (by (conv => lhs; whnf) <;> rfl) ?_
        exact ⟨rfl, _, P, htk, fun _ h => h, _, h9⟩
      have hwl := hwh (by omega)
      refine zsr ?_; refine zw1 ?_; refine wpO_cons ?_; refine op1_eqlI_s rfl rfl rfl ?_; refine zw1 ?_; refine zns ?_; refine wp_true rfl ?_; refine wp_region ?_; refine zw1 ?_; refine zw1 ?_; refine zn ?_; refine zf ?_; refine zh (S.g0 hS) ?_; refine zw1 ?_; refine zw1 ?_; refine wpO_cons ?_; refine op1_add rfl rfl rfl (by exact wrap_i64 (by omega) (by omega)) ?_; refine wpO_cons ?_; refine op1_call3 rfl (by (conv => lhs; whnf) <;> rfl) (by (conv => lhs; whnf) <;> rfl) (by (conv => lhs; whnf) <;> rfl) ?_
      refine wpF_mono (L64 wh (wh + 1) (S.up5 hS) (fl_one _ fun f hf => by obtain ⟨_, _, _, a, c, e⟩ := htk.air f hf; exact ⟨a, _, c, e⟩) (by omega) (by omega) (by omega)) ?_
      clear hS
      rintro _ H7 ⟨a7, c7, rfl, hS⟩
      rw [fl_del] at hS
      have hdl : (t1.air.take wh ++ t1.air.drop (wh + 1)).length = t1.air.length - (wh + 1 - wh) := by rw [List.length_append, List.length_take, List.length_drop]; omega
      have hdm : ∀ f ∈ t1.air.take wh ++ t1.air.drop (wh + 1), f ∈ t1.air := fun f hf => by
        rcases List.mem_append.1 hf with hf | hf
        · exact List.mem_of_mem_take hf
        · exact List.mem_of_mem_drop hf
      rw [← hdl] at hS ⊢
      refine zn ?_; refine zf ?_; refine wpO_cons ?_; (refine op1_store1S rfl rfl (by (conv => lhs; whnf) <;> rfl) rfl rfl (S.up1 hS) rfl ?_; intro H3 hS; replace hS := S.dn1 hS); refine wpO_nil ?_; refine block_normal ?_; refine cut1 (by (conv => lhs; whnf) <;> rfl) ?_
      exact ⟨rfl, _, P, htk.lose hdm (by omega), fun _ h => h, _, closeT (t := { t1 with air := t1.air.take wh ++ t1.air.drop (wh + 1) }) (S.dn5 hS)⟩
    · obtain rfl : sd = 0 := by omega
      refine wp_block ?_; refine zsr ?_; refine zw1 ?_; refine wpO_cons ?_; refine op1_lss rfl rfl rfl ?_; refine zw1 ?_; refine zns ?_; refine wp_false rfl ?_; refine zsr ?_; refine zw1 ?_; refine wpO_cons ?_; refine op1_lss rfl rfl rfl ?_; refine zw1 ?_; refine zns ?_; refine wp_false rfl ?_; refine zsr ?_; refine zw1 ?_; refine wpO_cons ?_; refine op1_lss rfl rfl rfl ?_; refine zw1 ?_; refine zns ?_; refine wp_false rfl ?_; refine zsr ?_; refine zw1 ?_; refine wpO_cons ?_; refine op1_lss rfl rfl rfl ?_; refine zw1 ?_; refine zns ?_; refine wp_false rfl ?_; refine zsr ?_; refine zw1 ?_; refine zn ?_; refine zf ?_; refine zh (S.g0 hS) ?_; refine wpO_cons ?_; refine op1_len rfl rfl ?_; refine wpO_cons ?_; refine op1_eqlI rfl rfl rfl ?_; refine zw1 ?_; refine zns ?_
      refine wp_dec rfl (fun h1 => ?_) (fun h1 => ?_)
      · refine wp_skip ?_; refine block_normal ?_; refine cut1 (by (conv => lhs; whnf) <;> rfl) ?_
        exact ⟨rfl, _, P, htk, fun _ h => h, _, h9⟩
      have hwl := hwh (by omega)
      obtain ⟨f, hf⟩ : ∃ f, t1.air[wh]? = some f := ⟨t1.air[wh]'(by omega), by simp⟩
      have hfm := List.mem_of_getElem? hf
      obtain ⟨f1', ⟨_, fq, fn⟩, fp, fa, fc, fv⟩ := htk.air f hfm
      have hcut : ((t1.air.flatMap Fl.cells).drop (wh * 6)).take 6 = [.int .i64 f.to, .int .i64 f.g.fl, .int .u32 f.g.seq, .int .u32 f.g.num, .int .i64 f.g.win, .slice fa f.g.data.length fc] := by
        rw [flatMap_cut (f := Fl.cells) (fun _ => rfl) hf, Fl.cells, fv]
        rfl
      obtain ⟨lb1, lo, lcs, rfl, _⟩ := S.slBlk (S.up5 hS) (by omega)
      refine zsr ?_; refine zw1 ?_; refine wpO_cons ?_; refine op1_eqlI rfl rfl rfl ?_; refine zw1 ?_; refine zns ?_; refine wp_false rfl ?_; refine zsr ?_; refine zw1 ?_; refine zw1 ?_; refine zn ?_; refine zf ?_; refine zh (S.g0 hS) ?_; refine zw1 ?_; refine wpO_cons ?_; refine op1_iaddr rfl rfl rfl (by omega) (by omega) ?_; refine wpO_cons ?_; refine op1_loadNL rfl rfl (S.up5 hS) rfl rfl (by omega) rfl ?_; refine wpO_cons ?_; refine op1_call2 rfl (by (conv => lhs; whnf) <;> rfl) (by (conv => lhs; whnf) <;> rfl) ?_
      rw [show (wh : Int).toNat = wh from rfl, hcut]
      have hpr : ∀ {L : List Asn}, RD B (pool P :: L) 1 (.slice fa f.g.data.length fc) (u8s f.g.data) := fun {L} => by
        have := pool_rd (B := B) (As := L) fp
        rw [fv] at this
        exact this
      rcases f1' with ⟨f0, _⟩ | ⟨f0, _⟩
      · rw [f0]
        refine wpF_mono (L65a htk.i0.ok fq fn (RD.cons (RD.cons (RD.cons (RD.cons (RD.cons (RD.cons (RD.cons hpr))))))) (S.up2 (S.up2 (S.up3 hS)))) ?_
        clear hS
        rintro _ H5 ⟨rfl, hS⟩
        replace hS := S.dn3 (S.dn2 (S.dn2 hS))
        have hta := htk.arrive0 (by omega) hfm f0
        refine zw1 ?_; refine zns ?_; refine zsr ?_; refine zw1 ?_; refine wpO_cons ?_; refine op1_eqlI rfl rfl rfl ?_; refine zns ?_; refine wp_false rfl ?_; refine wp_skip ?_; refine block_normal ?_; refine cut1 (by (conv => lhs; whnf) <;> rfl) ?_
        exact ⟨rfl, _, P, hta, fun _ h => h, _, closeT (t := { t1 with s0 := t1.s0.input f.g t1.now }) hS⟩
      · rw [f0]
        refine wpF_mono (L65b htk.i1.ok fq fn (RD.cons (RD.cons (RD.cons (RD.cons (RD.cons (RD.cons (RD.cons hpr))))))) (S.up2 (S.up3 (S.up4 hS)))) ?_
        clear hS
        rintro _ H5 ⟨rfl, hS⟩
        replace hS := S.dn4 (S.dn3 (S.dn2 hS))
        have hta := htk.arrive1 (by omega) hfm f0
        refine zw1 ?_; refine zns ?_; refine zsr ?_; refine zw1 ?_; refine wpO_cons ?_; refine op1_eqlI rfl rfl rfl ?_; refine zns ?_; refine wp_false rfl ?_; refine wp_skip ?_; refine block_normal ?_; refine cut1 (by (conv => lhs; whnf) <;> rfl) ?_
        exact ⟨rfl, _, P, hta, fun _ h => h, _, closeT (t := { t1 with s1 := t1.s1.input f.g t1.now }) hS⟩
  clear hS h9
  rintro vs3 T3 H4 ⟨rfl, t', P', ht', hP', bx, hS⟩
  obtain ⟨X, hX⟩ := openT hS
  obtain ⟨p0', p1', q0', q1', aa', ca', w0', w1', r0', r1'⟩ := X
  dsimp only at hX
  clear hS
  have hS := hX
  clear hX
  unfold tkC ptC at hS
  have hT := hS
  refine wp_seq ?_; refine wp_regionD ?_; refine zd1 ?_; refine zd1 ?_; refine zd1 ?_; refine zm ?_; refine zg ?_; refine wpD_cons ?_; refine op1_iaddrArr rfl rfl rfl (by omega) (by omega) ?_; refine zj (S.g0 hT) ?_; refine zd1 ?_; refine zm ?_; refine zg ?_; refine wpD_cons ?_; refine op1_iaddrArr rfl rfl rfl (by omega) (by omega) ?_; refine zj (S.g0 hT) ?_; refine wpD_cons ?_; refine op1_call2 rfl (by (conv => lhs; whnf) <;> rfl) (by (conv => lhs; whnf) <;> rfl) ?_
  refine wpF_mono (L32 ht'.i0 (S.up2 (S.up3 hS))) ?_
  clear hS
  rintro _ H5 ⟨rfl, hS⟩
  replace hS := S.dn3 (S.dn2 hS)
  have hT5 := hS
  refine wpD_cons ?_; refine op1_pick_t rfl rfl (by (conv => lhs; whnf) <;> rfl) ?_; refine zd1 ?_; refine zd1 ?_; refine zm ?_; refine zg ?_; refine wpD_cons ?_; refine op1_iaddrArr rfl rfl rfl (by omega) (by omega) ?_; refine zj (S.g0 hT5) ?_; refine zd1 ?_; refine zm ?_; refine zg ?_; refine wpD_cons ?_; refine op1_iaddrArr rfl rfl rfl (by omega) (by omega) ?_; refine zj (S.g0 hT5) ?_; refine wpD_cons ?_; refine op1_call2 rfl (by (conv => lhs; whnf) <;> rfl) (by (conv => lhs; whnf) <;> rfl) ?_
  refine wpF_mono (L32 ht'.i1 (S.up3 (S.up4 hS))) ?_
  clear hS
  rintro _ H6 ⟨rfl, hS⟩
  replace hS := S.dn4 (S.dn3 hS)
  refine wpD_cons ?_; refine op1_pick_t rfl rfl (by (conv => lhs; whnf) <;> rfl) ?_; refine zd1 ?_; refine wpD_nil ?_; refine dk_of ?_ ?_; (iterate 6 refine chk_skip ?_); refine zx 22 ?_ ?_; refine zy 16 ?_ ?_; exact zq (S.g0 hT); exact chkFs_nil; (iterate 4 refine chk_skip ?_); refine zx 17 ?_ ?_; refine zy 16 ?_ ?_; exact zq (S.g0 hT); exact chkFs_nil; (iterate 7 refine chk_skip ?_); refine zx 9 ?_ ?_; refine zy 3 ?_ ?_; exact zq (S.g0 hT5); exact chkFs_nil; (iterate 4 refine chk_skip ?_); refine zx 4 ?_ ?_; refine zy 3 ?_ ?_; exact zq (S.g0 hT5); exact chkFs_nil; (iterate 3 refine chk_skip ?_); exact chk_end; refine seq_normal ?_; refine wp_ret ?_; refine ret_of ?_; refine zr ?_; refine rk_nil ?_
  exact ⟨rfl, t', P', ht', hP', S.drop (S.up1 (closeT hS))⟩
end
end Go.E.St
/- A talk: its beginning; the prefix. -/
namespace Go.E.St
open Go Go.E Go.Proofs.Ytamcfhhcmjagnaa Go.Proofs
set_option linter.unusedVariables false
set_option linter.unusedSimpArgs false
set_option maxRecDepth 100000
section
variable {B H : AHeap} {As : List Asn}
theorem start_ck (s : Cn) (n : Int) : (s.start n).2.clock = s.clock := by
  unfold Cn.start
  split <;> rfl
/-! ### the beginning -/
structure NwF where
  first : Int
  size : Int
  tmo : Int
def NwF.cells (x : NwF) : List Value := [.int .u32 x.first, .int .i64 x.size, .int .i64 x.tmo]
def NwOk (x : NwF) : Prop := (0 ≤ x.first ∧ x.first ≤ 4294967295) ∧ (-9223372036854775808 ≤ x.size ∧ x.size ≤ 9223372036854775807) ∧ -9223372036854775808 ≤ x.tmo ∧ x.tmo ≤ 9223372036854775807
def opK (k : Int) : OpF := ⟨⟨k, 0, [], ⟨0, 0, 0, 0, []⟩, 0⟩, none, 0, [], none, 0, []⟩
theorem opK_ok {B : AHeap} {k : Int} (hk : -9223372036854775808 ≤ k ∧ k ≤ 9223372036854775807) : OpOk B (opK k) :=
  { n := by show (_ : Int) ≤ 0 ∧ (0 : Int) ≤ _; omega, tm := by show (_ : Int) ≤ 0 ∧ (0 : Int) ≤ _; omega, kind := hk, fl := by show (_ : Int) ≤ 0 ∧ (0 : Int) ≤ _; omega, win := by show (_ : Int) ≤ 0 ∧ (0 : Int) ≤ _; omega
    seq := by show (0 : Int) ≤ 0 ∧ (0 : Int) ≤ _; omega, num := by show (0 : Int) ≤ 0 ∧ (0 : Int) ≤ _; omega, l := Nat.zero_le _, l' := Nat.zero_le _, rd := .nil, lt := by simp [opK], rd' := .nil, lt' := by simp [opK] }
theorem L23 {x y : NwF} (hx : NwOk x) (hy : NwOk y) (hS : S B H As) : wpF C 23 [.agg ⟨[.int .u32 x.first, .int .i64 x.size, .int .i64 x.tmo, .int .u32 y.first, .int .i64 y.size, .int .i64 y.tmo]⟩] H fun v H' => ∃ b t P, v = .tuple ⟨[ptC b, .bool true]⟩ ∧ TkOk t P 0 ∧ S B H' (repT b t P :: As) := by
  refine wpF_ofW o23 rfl rfl ?_
  obtain ⟨hx1, hx2, hx3⟩ := hx
  obtain ⟨hy1, hy2, hy3⟩ := hy
  refine zsr ?_; refine wpO_cons ?_; refine op1_boxNS rfl rfl rfl hS ?_; intro p1 H1 hS; refine zw1 ?_; refine zw1 ?_; refine zns ?_; refine zsr ?_; refine wpO_cons ?_; refine op1_build rfl ?_; refine bk_nil ?_; refine wpO_cons ?_; refine op1_boxNS rfl rfl rfl hS ?_; intro p2 H2 hS; refine zw1 ?_; refine zns ?_; refine wp_seq ?_; refine zsr ?_; refine zw1 ?_; refine zns ?_; refine wp_block ?_
  refine wp_loop [12] (fun k vs H' => ∃ i : Nat, vs = [.int .i64 i] ∧ k = 2 - i ∧
    ((i = 0 ∧ S B H' (pto p2 (.cells [Value.pointer none, Value.pointer none, Value.pointer none, Value.pointer none, .slice none 0 0, .int .i64 0, .slice none 0 0, .slice none 0 0, .slice none 0 0, .slice none 0 0] 0 false) :: pto p1 (.cells [.int .u32 x.first, .int .i64 x.size, .int .i64 x.tmo, .int .u32 y.first, .int .i64 y.size, .int .i64 y.tmo] 0 false) :: As)) ∨
     (i = 1 ∧ ∃ (a c : Nat) (n m : Int), NewOk n m ∧ S B H' (pto p2 (.cells [ptC a, Value.pointer none, ptC c, Value.pointer none, .slice none 0 0, .int .i64 0, .slice none 0 0, .slice none 0 0, .slice none 0 0, .slice none 0 0] 0 false) :: repC a ((cn0 x.first n m).start 2).2 :: repD c ((cn0 x.first n m).start 2).2 :: pto p1 (.cells [.int .u32 x.first, .int .i64 x.size, .int .i64 x.tmo, .int .u32 y.first, .int .i64 y.size, .int .i64 y.tmo] 0 false) :: As)) ∨
     (i = 2 ∧ ∃ (a b c d : Nat) (n m n' m' : Int), NewOk n m ∧ NewOk n' m' ∧ S B H' (pto p2 (.cells [ptC a, ptC b, ptC c, ptC d, .slice none 0 0, .int .i64 0, .slice none 0 0, .slice none 0 0, .slice none 0 0, .slice none 0 0] 0 false) :: repC a ((cn0 x.first n m).start 2).2 :: repC b ((cn0 y.first n' m').start 1).2 :: repD c ((cn0 x.first n m).start 2).2 :: repD d ((cn0 y.first n' m').start 1).2 :: pto p1 (.cells [.int .u32 x.first, .int .i64 x.size, .int .i64 x.tmo, .int .u32 y.first, .int .i64 y.size, .int .i64 y.tmo] 0 false) :: As)))) ⟨_, 0, rfl, rfl, .inl ⟨rfl, hS⟩⟩ ?_
  clear hS
  rintro k vs T2 H3 ⟨i, rfl, rfl, hJ⟩
  rcases hJ with ⟨rfl, hS⟩ | ⟨rfl, a, c, n0, m0, hN0, hS⟩ | ⟨rfl, a, b, c, d, n, m, n', m', hN, hN', hS⟩
  · have hi0 : ((0 : Nat) : Int) = 0 := rfl
    obtain ⟨u, hu⟩ : ∃ z, z = IntKind.u64.wrap x.size := ⟨_, rfl⟩
    have hub : 0 ≤ u ∧ u ≤ 18446744073709551615 := by rw [hu, wrap_u64]; omega
    obtain ⟨w, hw⟩ : ∃ z, z = IntKind.u64.wrap x.tmo := ⟨_, rfl⟩
    have hwb : 0 ≤ w ∧ w ≤ 18446744073709551615 := by rw [hw, wrap_u64]; omega
    obtain ⟨n, hn, hnb⟩ : ∃ n : Int, u.tmod 64 = n ∧ 0 ≤ n ∧ n ≤ 63 := ⟨_, rfl, by rw [Int.tmod_eq_emod_of_nonneg hub.1]; omega, by rw [Int.tmod_eq_emod_of_nonneg hub.1]; omega⟩
    obtain ⟨m, hm, hmb⟩ : ∃ n : Int, w.tmod 200 = n ∧ 0 ≤ n ∧ n ≤ 199 := ⟨_, rfl, by rw [Int.tmod_eq_emod_of_nonneg hwb.1]; omega, by rw [Int.tmod_eq_emod_of_nonneg hwb.1]; omega⟩
    have hN : NewOk (1 + n) (1 + m) := ⟨by omega, by omega⟩
    refine zsr ?_; refine wpO_cons ?_; refine op1_lss rfl rfl rfl ?_; refine zns ?_; refine wp_seq ?_; refine wp_true rfl ?_; refine wp_skip ?_; refine seq_normal ?_; refine wp_seq ?_; refine wp_block ?_; refine zsr ?_; refine zw1 ?_; refine zw1 ?_; refine zns ?_; refine wp_seq ?_; refine wp_regionD ?_; refine zd1 ?_; refine wpD_cons ?_; refine op1_iaddrArr rfl rfl rfl (by omega) (by omega) ?_; refine zg ?_; refine zj (S.g1 hS) ?_; refine wpD_cons ?_
    refine op1_convIntW rfl rfl ?_
    rw [← hu]
    refine wpD_cons ?_; refine op1_rem rfl rfl rfl (by omega) ?_; refine wpD_cons ?_; refine op1_convInt rfl rfl (by exact wrap_i64 (by omega) (by omega)) ?_; refine wpD_cons ?_; refine op1_add rfl rfl rfl (by exact wrap_i64 (by omega) (by omega)) ?_; refine zd1 ?_; refine wpD_cons ?_; refine op1_iaddrArr rfl rfl rfl (by omega) (by omega) ?_; refine zg ?_; refine zj (S.g1 hS) ?_; refine wpD_cons ?_
    refine op1_convIntW rfl rfl ?_
    rw [← hw]
    refine wpD_cons ?_; refine op1_rem rfl rfl rfl (by omega) ?_; refine wpD_cons ?_; refine op1_convInt rfl rfl (by exact wrap_i64 (by omega) (by omega)) ?_; refine wpD_cons ?_; refine op1_add rfl rfl rfl (by exact wrap_i64 (by omega) (by omega)) ?_; refine zd1 ?_; refine zd1 ?_; refine wpD_nil ?_; refine dk_of ?_ ?_; (iterate 3 refine chk_skip ?_); refine zx 15 ?_ ?_; refine zy 0 ?_ ?_; exact zq (S.g1 hS); exact chkFs_nil; (iterate 7 refine chk_skip ?_); refine zx 7 ?_ ?_; refine zy 0 ?_ ?_; exact zq (S.g1 hS); exact chkFs_nil; (iterate 6 refine chk_skip ?_); exact chk_end; refine seq_normal ?_; refine zsr ?_; refine zw1 ?_; refine zw1 ?_; refine zns ?_; refine wp_seq ?_; refine wp_regionD ?_; refine zd1 ?_; refine zd1 ?_; refine zd1 ?_; refine wpD_cons ?_; refine op1_iaddrArr rfl rfl rfl (by omega) (by omega) ?_; refine zg ?_; refine zj (S.g1 hS) ?_; refine zd1 ?_; refine zd1 ?_; refine zm ?_; refine zg ?_; refine wpD_cons ?_; refine op1_call3 rfl (by (conv => lhs; whnf) <;> rfl) (by (conv => lhs; whnf) <;> rfl) (by (conv => lhs; whnf) <;> rfl) ?_
    rw [hn, hm]
    refine wpF_mono (L29 hS) ?_
    rintro _ H4 ⟨_, h⟩
    have hT := hS
    clear hS
    obtain ⟨p, rfl, hS⟩ := h hN
    clear h
    unfold ptC
    have hT4 := S.up1 hS
    refine zd1 ?_; refine wpD_cons ?_; refine op1_extract rfl rfl rfl ?_; refine wpD_cons ?_; refine op1_extract rfl rfl rfl ?_; refine wpD_cons ?_; refine op1_iaddrArr rfl rfl rfl (by omega) (by omega) ?_; refine wpD_cons ?_; (refine op1_store1S rfl rfl (by (conv => lhs; whnf) <;> rfl) rfl rfl (S.up1 hS) rfl ?_; intro H5 hS; replace hS := S.dn1 hS); refine zd1 ?_; refine wpD_nil ?_; refine dk_of ?_ ?_; (iterate 5 refine chk_skip ?_); refine zx 12 ?_ ?_; refine zy 7 ?_ ?_; exact zq (S.g1 hT); exact chkFs_nil; (iterate 11 refine chk_skip ?_); exact chk_end; refine seq_normal ?_; refine wp_seq ?_; refine wp_regionD ?_; refine zd1 ?_; refine zd1 ?_; refine zd1 ?_; refine wpD_cons ?_; refine op1_iaddrArr rfl rfl rfl (by omega) (by omega) ?_; refine zg ?_; refine zj (S.g2 hS) ?_; refine zd1 ?_; refine zd1 ?_; refine zm ?_; refine zg ?_; refine wpD_cons ?_; refine op1_call3 rfl (by (conv => lhs; whnf) <;> rfl) (by (conv => lhs; whnf) <;> rfl) (by (conv => lhs; whnf) <;> rfl) ?_
    refine wpF_mono (L30 hS) ?_
    have hT4b := hS
    rintro _ H5 ⟨_, h⟩
    clear hS
    obtain ⟨q, rfl, hS⟩ := h hN
    clear h
    unfold ptC
    have hT5 := S.up2 hS
    refine zd1 ?_; refine wpD_cons ?_; refine op1_extract rfl rfl rfl ?_; refine wpD_cons ?_; refine op1_extract rfl rfl rfl ?_; refine wpD_cons ?_; refine op1_iaddrArr rfl rfl rfl (by omega) (by omega) ?_; refine wpD_cons ?_; (refine op1_store1S rfl rfl (by (conv => lhs; whnf) <;> rfl) rfl rfl (S.up2 hS) rfl ?_; intro H6 hS; replace hS := S.dn2 hS); refine zd1 ?_; refine wpD_nil ?_; refine dk_of ?_ ?_; (iterate 5 refine chk_skip ?_); refine zx 12 ?_ ?_; refine zy 7 ?_ ?_; exact zq (S.g2 hT4b); exact chkFs_nil; (iterate 11 refine chk_skip ?_); exact chk_end; refine seq_normal ?_; refine wp_seq ?_; refine wp_regionD ?_; refine zd1 ?_; refine wpD_cons ?_; refine op1_neqI_s rfl rfl rfl ?_; refine zd1 ?_; refine zd1 ?_; refine wpD_cons ?_; refine op1_neqI_s rfl rfl rfl ?_; refine wpD_cons ?_; refine op1_pick_f rfl rfl (by (conv => lhs; whnf) <;> rfl) ?_; refine zd1 ?_; refine zd1 ?_; refine zd1 ?_; refine zm ?_; refine zg ?_; refine wpD_cons ?_; refine op1_iaddrArr rfl rfl rfl (by omega) (by omega) ?_; refine zj (S.g2 hS) ?_; refine wpD_cons ?_; refine op1_bin_false rfl (by (conv => lhs; whnf) <;> rfl) (by (conv => lhs; whnf) <;> rfl) rfl ?_; refine wpD_cons ?_; refine op1_pick_f rfl rfl (by (conv => lhs; whnf) <;> rfl) ?_; refine zd1 ?_; refine zd1 ?_; refine zd1 ?_; refine zm ?_; refine zg ?_; refine wpD_cons ?_; refine op1_iaddrArr rfl rfl rfl (by omega) (by omega) ?_; refine zj (S.g2 hS) ?_; refine zd1 ?_; refine zd1 ?_; refine zm ?_; refine zg ?_; refine wpD_cons ?_; refine op1_iaddrArr rfl rfl rfl (by omega) (by omega) ?_; refine zj (S.g2 hS) ?_; refine zd1 ?_; refine wpD_cons ?_; refine op1_sub rfl rfl rfl (by exact wrap_i64 (by omega) (by omega)) ?_; refine wpD_cons ?_; refine op1_build rfl ?_; refine bk_one (by (conv => lhs; whnf) <;> rfl) rfl rfl rfl ?_; refine bk_nil ?_; refine wpD_cons ?_; refine op1_call3 rfl (by (conv => lhs; whnf) <;> rfl) (by (conv => lhs; whnf) <;> rfl) (by (conv => lhs; whnf) <;> rfl) ?_
    have hT6 := S.up2 hS
    refine wpF_mono (L31 (x := opK (1 - ((0 : Nat) : Int))) (Inv.new hN hx1) (opK_ok (by omega)) (by show 0 ≤ 12000; omega) (by show 0 ≤ 12000; omega) (S.up1 hS)) ?_
    clear hS
    rintro _ H6 ⟨rfl, hS⟩
    have es : (cn0 x.first (1 + n) (1 + m)).step (opK (1 - ((0 : Nat) : Int))).o = ((cn0 x.first (1 + n) (1 + m)).start 2).2 := by unfold Cn.step opK; simp
    rw [es] at hS
    refine wpD_cons ?_; refine op1_not_t rfl rfl ?_; refine wpD_cons ?_; refine op1_pick_f rfl rfl (by (conv => lhs; whnf) <;> rfl) ?_; refine wpD_nil ?_; refine dk_of ?_ ?_; (iterate 12 refine chk_skip ?_); refine zx 22 ?_ ?_; refine zy 3 ?_ ?_; exact zq (S.g0 hT6); exact chkFs_nil; (iterate 8 refine chk_skip ?_); refine zx 13 ?_ ?_; refine zy 3 ?_ ?_; exact zq (S.g0 hT6); exact chkFs_nil; (iterate 5 refine chk_skip ?_); refine zx 7 ?_ ?_; refine zy 3 ?_ ?_; exact zq (S.g0 hT6); exact chkFs_nil; (iterate 6 refine chk_skip ?_); exact chk_end; refine seq_normal ?_; refine wp_false rfl ?_; refine wp_skip ?_; refine block_normal ?_; refine seq_normal ?_; refine wp_region ?_; refine wpO_cons ?_; refine op1_add rfl rfl rfl (by exact wrap_i64 (by omega) (by omega)) ?_; refine zw1 ?_; refine wpO_nil ?_
    exact ⟨2 - (0 + 1), by omega, 0 + 1, rfl, rfl, .inr (.inl ⟨rfl, p, q, _, _, hN, S.up2 hS⟩)⟩
  · have hi0 : ((1 : Nat) : Int) = 1 := rfl
    obtain ⟨u, hu⟩ : ∃ z, z = IntKind.u64.wrap y.size := ⟨_, rfl⟩
    have hub : 0 ≤ u ∧ u ≤ 18446744073709551615 := by rw [hu, wrap_u64]; omega
    obtain ⟨w, hw⟩ : ∃ z, z = IntKind.u64.wrap y.tmo := ⟨_, rfl⟩
    have hwb : 0 ≤ w ∧ w ≤ 18446744073709551615 := by rw [hw, wrap_u64]; omega
    obtain ⟨n, hn, hnb⟩ : ∃ n : Int, u.tmod 64 = n ∧ 0 ≤ n ∧ n ≤ 63 := ⟨_, rfl, by rw [Int.tmod_eq_emod_of_nonneg hub.1]; omega, by rw [Int.tmod_eq_emod_of_nonneg hub.1]; omega⟩
    obtain ⟨m, hm, hmb⟩ : ∃ n : Int, w.tmod 200 = n ∧ 0 ≤ n ∧ n ≤ 199 := ⟨_, rfl, by rw [Int.tmod_eq_emod_of_nonneg hwb.1]; omega, by rw [Int.tmod_eq_emod_of_nonneg hwb.1]; omega⟩
    have hN : NewOk (1 + n) (1 + m) := ⟨by omega, by omega⟩
    refine zsr ?_; refine wpO_cons ?_; refine op1_lss rfl rfl rfl ?_; refine zns ?_; refine wp_seq ?_; refine wp_true rfl ?_; refine wp_skip ?_; refine seq_normal ?_; refine wp_seq ?_; refine wp_block ?_; refine zsr ?_; refine zw1 ?_; refine zw1 ?_; refine zns ?_; refine wp_seq ?_; refine wp_regionD ?_; refine zd1 ?_; refine wpD_cons ?_; refine op1_iaddrArr rfl rfl rfl (by omega) (by omega) ?_; refine wpD_cons ?_; refine op1_faddr rfl rfl ?_; refine zj (S.g3 hS) ?_; refine wpD_cons ?_
    refine op1_convIntW rfl rfl ?_
    rw [← hu]
    refine wpD_cons ?_; refine op1_rem rfl rfl rfl (by omega) ?_; refine wpD_cons ?_; refine op1_convInt rfl rfl (by exact wrap_i64 (by omega) (by omega)) ?_; refine wpD_cons ?_; refine op1_add rfl rfl rfl (by exact wrap_i64 (by omega) (by omega)) ?_; refine zd1 ?_; refine wpD_cons ?_; refine op1_iaddrArr rfl rfl rfl (by omega) (by omega) ?_; refine wpD_cons ?_; refine op1_faddr rfl rfl ?_; refine zj (S.g3 hS) ?_; refine wpD_cons ?_
    refine op1_convIntW rfl rfl ?_
    rw [← hw]
    refine wpD_cons ?_; refine op1_rem rfl rfl rfl (by omega) ?_; refine wpD_cons ?_; refine op1_convInt rfl rfl (by exact wrap_i64 (by omega) (by omega)) ?_; refine wpD_cons ?_; refine op1_add rfl rfl rfl (by exact wrap_i64 (by omega) (by omega)) ?_; refine zd1 ?_; refine zd1 ?_; refine wpD_nil ?_; refine dk_of ?_ ?_; (iterate 3 refine chk_skip ?_); refine zx 15 ?_ ?_; refine zy 0 ?_ ?_; exact zq (S.g3 hS); exact chkFs_nil; (iterate 7 refine chk_skip ?_); refine zx 7 ?_ ?_; refine zy 0 ?_ ?_; exact zq (S.g3 hS); exact chkFs_nil; (iterate 6 refine chk_skip ?_); exact chk_end; refine seq_normal ?_; refine zsr ?_; refine zw1 ?_; refine zw1 ?_; refine zns ?_; refine wp_seq ?_; refine wp_regionD ?_; refine zd1 ?_; refine zd1 ?_; refine zd1 ?_; refine wpD_cons ?_; refine op1_iaddrArr rfl rfl rfl (by omega) (by omega) ?_; refine wpD_cons ?_; refine op1_faddr rfl rfl ?_; refine zj (S.g3 hS) ?_; refine zd1 ?_; refine zd1 ?_; refine zm ?_; refine zg ?_; refine wpD_cons ?_; refine op1_call3 rfl (by (conv => lhs; whnf) <;> rfl) (by (conv => lhs; whnf) <;> rfl) (by (conv => lhs; whnf) <;> rfl) ?_
    rw [hn, hm]
    refine wpF_mono (L29 hS) ?_
    rintro _ H4 ⟨_, h⟩
    have hT := hS
    clear hS
    obtain ⟨p, rfl, hS⟩ := h hN
    clear h
    unfold ptC
    have hT4 := S.up1 hS
    refine zd1 ?_; refine wpD_cons ?_; refine op1_extract rfl rfl rfl ?_; refine wpD_cons ?_; refine op1_extract rfl rfl rfl ?_; refine wpD_cons ?_; refine op1_iaddrArr rfl rfl rfl (by omega) (by omega) ?_; refine wpD_cons ?_; (refine op1_store1S rfl rfl (by (conv => lhs; whnf) <;> rfl) rfl rfl (S.up1 hS) rfl ?_; intro H5 hS; replace hS := S.dn1 hS); refine zd1 ?_; refine wpD_nil ?_; refine dk_of ?_ ?_; (iterate 5 refine chk_skip ?_); refine zx 12 ?_ ?_; refine zy 7 ?_ ?_; exact zq (S.g3 hT); exact chkFs_nil; (iterate 11 refine chk_skip ?_); exact chk_end; refine seq_normal ?_; refine wp_seq ?_; refine wp_regionD ?_; refine zd1 ?_; refine zd1 ?_; refine zd1 ?_; refine wpD_cons ?_; refine op1_iaddrArr rfl rfl rfl (by omega) (by omega) ?_; refine wpD_cons ?_; refine op1_faddr rfl rfl ?_; refine zj (S.g4 hS) ?_; refine zd1 ?_; refine zd1 ?_; refine zm ?_; refine zg ?_; refine wpD_cons ?_; refine op1_call3 rfl (by (conv => lhs; whnf) <;> rfl) (by (conv => lhs; whnf) <;> rfl) (by (conv => lhs; whnf) <;> rfl) ?_
    refine wpF_mono (L30 hS) ?_
    have hT4b := hS
    rintro _ H5 ⟨_, h⟩
    clear hS
    obtain ⟨q, rfl, hS⟩ := h hN
    clear h
    unfold ptC
    have hT5 := S.up2 hS
    refine zd1 ?_; refine wpD_cons ?_; refine op1_extract rfl rfl rfl ?_; refine wpD_cons ?_; refine op1_extract rfl rfl rfl ?_; refine wpD_cons ?_; refine op1_iaddrArr rfl rfl rfl (by omega) (by omega) ?_; refine wpD_cons ?_; (refine op1_store1S rfl rfl (by (conv => lhs; whnf) <;> rfl) rfl rfl (S.up2 hS) rfl ?_; intro H6 hS; replace hS := S.dn2 hS); refine zd1 ?_; refine wpD_nil ?_; refine dk_of ?_ ?_; (iterate 5 refine chk_skip ?_); refine zx 12 ?_ ?_; refine zy 7 ?_ ?_; exact zq (S.g4 hT4b); exact chkFs_nil; (iterate 11 refine chk_skip ?_); exact chk_end; refine seq_normal ?_; refine wp_seq ?_; refine wp_regionD ?_; refine zd1 ?_; refine wpD_cons ?_; refine op1_neqI_s rfl rfl rfl ?_; refine zd1 ?_; refine zd1 ?_; refine wpD_cons ?_; refine op1_neqI_s rfl rfl rfl ?_; refine wpD_cons ?_; refine op1_pick_f rfl rfl (by (conv => lhs; whnf) <;> rfl) ?_; refine zd1 ?_; refine zd1 ?_; refine zd1 ?_; refine zm ?_; refine zg ?_; refine wpD_cons ?_; refine op1_iaddrArr rfl rfl rfl (by omega) (by omega) ?_; refine zj (S.g2 hS) ?_; refine wpD_cons ?_; refine op1_bin_false rfl (by (conv => lhs; whnf) <;> rfl) (by (conv => lhs; whnf) <;> rfl) rfl ?_; refine wpD_cons ?_; refine op1_pick_f rfl rfl (by (conv => lhs; whnf) <;> rfl) ?_; refine zd1 ?_; refine zd1 ?_; refine zd1 ?_; refine zm ?_; refine zg ?_; refine wpD_cons ?_; refine op1_iaddrArr rfl rfl rfl (by omega) (by omega) ?_; refine zj (S.g2 hS) ?_; refine zd1 ?_; refine zd1 ?_; refine zm ?_; refine zg ?_; refine wpD_cons ?_; refine op1_iaddrArr rfl rfl rfl (by omega) (by omega) ?_; refine zj (S.g2 hS) ?_; refine zd1 ?_; refine wpD_cons ?_; refine op1_sub rfl rfl rfl (by exact wrap_i64 (by omega) (by omega)) ?_; refine wpD_cons ?_; refine op1_build rfl ?_; refine bk_one (by (conv => lhs; whnf) <;> rfl) rfl rfl rfl ?_; refine bk_nil ?_; refine wpD_cons ?_; refine op1_call3 rfl (by (conv => lhs; whnf) <;> rfl) (by (conv => lhs; whnf) <;> rfl) (by (conv => lhs; whnf) <;> rfl) ?_
    have hT6 := S.up2 hS
    refine wpF_mono (L31 (x := opK (1 - ((1 : Nat) : Int))) (Inv.new hN hy1) (opK_ok (by omega)) (by show 0 ≤ 12000; omega) (by show 0 ≤ 12000; omega) (S.up1 hS)) ?_
    clear hS
    rintro _ H6 ⟨rfl, hS⟩
    have es : (cn0 y.first (1 + n) (1 + m)).step (opK (1 - ((1 : Nat) : Int))).o = ((cn0 y.first (1 + n) (1 + m)).start 1).2 := by unfold Cn.step opK; simp
    rw [es] at hS
    refine wpD_cons ?_; refine op1_not_t rfl rfl ?_; refine wpD_cons ?_; refine op1_pick_f rfl rfl (by (conv => lhs; whnf) <;> rfl) ?_; refine wpD_nil ?_; refine dk_of ?_ ?_; (iterate 12 refine chk_skip ?_); refine zx 22 ?_ ?_; refine zy 3 ?_ ?_; exact zq (S.g0 hT6); exact chkFs_nil; (iterate 8 refine chk_skip ?_); refine zx 13 ?_ ?_; refine zy 3 ?_ ?_; exact zq (S.g0 hT6); exact chkFs_nil; (iterate 5 refine chk_skip ?_); refine zx 7 ?_ ?_; refine zy 3 ?_ ?_; exact zq (S.g0 hT6); exact chkFs_nil; (iterate 6 refine chk_skip ?_); exact chk_end; refine seq_normal ?_; refine wp_false rfl ?_; refine wp_skip ?_; refine block_normal ?_; refine seq_normal ?_; refine wp_region ?_; refine wpO_cons ?_; refine op1_add rfl rfl rfl (by exact wrap_i64 (by omega) (by omega)) ?_; refine zw1 ?_; refine wpO_nil ?_
    exact ⟨2 - (1 + 1), by omega, 1 + 1, rfl, rfl, .inr (.inr ⟨rfl, a, p, c, q, _, _, _, _, hN0, hN, S.up4 (S.up4 (S.up2 (S.up4 (S.up1 hS))))⟩)⟩
  · refine zsr ?_; refine wpO_cons ?_; refine op1_lss rfl rfl rfl ?_; refine zns ?_; refine wp_seq ?_; refine wp_false rfl ?_; refine wp_exit ?_; refine seq_exit ?_; refine iter_exit ?_; refine block_exit ?_; refine seq_normal ?_; refine zsr ?_; refine zw1 ?_; refine zw1 ?_; refine zw1 ?_; refine zns ?_; refine wp_ret ?_; refine ret_of ?_; refine zr ?_; refine zr ?_; refine rk_nil ?_
    have h9 := S.dn5 (S.slNil (es := 6) (S.dn5 (S.slNil (es := 1) (S.dn5 (S.slNil (es := 1) (S.dn5 (S.slNil (es := 1) (S.dn5 (S.slNil (es := 1) (S.dn5 (pool_nil (S.drop (S.up5 hS)))))))))))))
    refine ⟨p2, ⟨((cn0 x.first n m).start 2).2, ((cn0 y.first n' m').start 1).2, [], 0, [], [], [], []⟩, [], rfl, ?_, closeT h9⟩
    exact { i0 := (Inv.new hN hx1).start (.inr rfl), i1 := (Inv.new hN' hy1).start (.inl rfl), n0 := Snd.new.start (.inr rfl), n1 := Snd.new.start (.inl rfl), v0 := Rcv.new.start (.inr rfl), v1 := Rcv.new.start (.inl rfl)
            air := fun f hf => by cases hf
            al := Nat.zero_le _, wl0 := Nat.zero_le _, wl1 := Nat.zero_le _, now := by show (0 : Int) ≤ 0 ∧ (0 : Int) ≤ _; omega
            ck := ⟨Int.le_of_eq (start_ck (cn0 x.first n m) 2), Int.le_of_eq (start_ck (cn0 y.first n' m') 1)⟩ }
end
end Go.E.St
/- StreamsTalks; the arguments of the laws over a talk. -/
namespace Go.E.St
open Go Go.E Go.ChangeShapes Go.WideShapes Go.ChangeAt Go.RowKit Go.Proofs.Ytamcfhhcmjagnaa Go.Proofs
set_option linter.unusedVariables false
set_option linter.unusedSimpArgs false
set_option maxRecDepth 100000
theorem vt58 : Try.prog.underlying 58 = some (.array 2 57) := by kernel_rfl
theorem vt86 : Try.prog.underlying 86 = some (.slice 88) := by kernel_rfl
theorem vt88 : fieldsOf Try.prog 88 = some [(3,0),(3,1),(3,2),(5,3),(23,4)] := by kernel_rfl
theorem vo58 : Try.prog.cellsOf 58 = 6 := by kernel_rfl
theorem vo88 : Try.prog.cellsOf 88 = 5 := by kernel_rfl
theorem vg58 : aggT Try.prog 58 = true := by kernel_rfl
theorem vg86 : aggT Try.prog 86 = false := by kernel_rfl
structure StOk_ (B : AHeap) (x : StF) (r : List Nat) : Prop where
  kind : -9223372036854775808 ≤ x.kind ∧ x.kind ≤ 9223372036854775807
  which : -9223372036854775808 ≤ x.which ∧ x.which ≤ 9223372036854775807
  n : -9223372036854775808 ≤ x.n ∧ x.n ≤ 9223372036854775807
  time : 0 ≤ x.time ∧ x.time ≤ 255
  l : x.data.length ≤ 140737488351232
  rd : RdS B 1 (.slice x.a x.data.length x.c) (u8s x.data) r
  lt : ∀ b ∈ r, b < B.next
theorem st_of {gs : List AObj} {us : List Value} (h : OkS Try.prog gs 5 88 us) : ∃ x : StF, us = x.cells ∧ ∃ r, StOk_ (startH gs) x r := by
  obtain ⟨hl, hf⟩ := h.struct vt88 vo88
  match us, hl with
  | [v0, v1, v2, v3, v4], _ =>
    obtain ⟨k, e0, h0⟩ := (OkS.okA _ _ _ (hf (3, 0) (by simp))).i64 vt3
    obtain ⟨n, e1, h1⟩ := (OkS.okA _ _ _ (hf (3, 1) (by simp))).i64 vt3
    obtain ⟨m, e2, h2⟩ := (OkS.okA _ _ _ (hf (3, 2) (by simp))).i64 vt3
    obtain ⟨t, e3, h3⟩ := (OkS.okA _ _ _ (hf (5, 3) (by simp))).u8 vt5
    obtain ⟨a, xs, c, r, e4, ⟨hl, hz⟩, hr, hlt, _⟩ := (hf (23, 4) (by simp)).byteS vt23 vo5 vt5
    simp only [vo3, vo5, vo23, List.drop_zero, List.take_succ_cons, List.take_zero, List.drop_succ_cons] at e0 e1 e2 e3 e4
    cases e0; cases e1; cases e2; cases e3; cases e4
    rw [vb5, Nat.mul_one, vreach] at hz
    exact ⟨⟨k, n, m, t, xs, a, c⟩, rfl, r, ⟨h0, h1, h2, h3, hz, hr, hlt⟩⟩
structure TalkF (B : AHeap) where
  x : NwF
  y : NwF
  ss : List StF
  sa : Option Addr
  sc : Nat
  sr : List Nat
  hx : NwOk x
  hy : NwOk y
  hl : ss.length ≤ 9223372036854775807
  srd : RdS B 5 (.slice sa ss.length sc) (ss.flatMap StF.cells) sr
  slt : ∀ b ∈ sr, b < B.next
  sok : ∀ x ∈ ss, ∃ r, StOk_ B x r
theorem nw_of {gs : List AObj} {us : List Value} {n : Nat} (h : OkA Try.prog gs (n + 2) 57 us) : ∃ x : NwF, us = x.cells ∧ NwOk x := by
  obtain ⟨hl, hf⟩ := h.struct vt57 vo57
  match us, hl with
  | [v0, v1, v2], _ =>
    obtain ⟨f, e0, h0⟩ := (hf (22, 0) (by simp)).u32 vt22
    obtain ⟨n, e1, h1⟩ := (hf (3, 1) (by simp)).i64 vt3
    obtain ⟨t, e2, h2⟩ := (hf (2, 2) (by simp)).i64 vt2
    simp only [vo2, vo3, vo22, List.drop_zero, List.take_succ_cons, List.take_zero, List.drop_succ_cons] at e0 e1 e2
    cases e0; cases e1; cases e2
    exact ⟨⟨f, n, t⟩, rfl, h0, h1, h2⟩
theorem arg_talk {gs : List AObj} {a b : Value} (h : ∃ cells, a = argV Try.prog 58 cells ∧ OkS Try.prog gs 6 58 cells) (k : ∃ cells, b = argV Try.prog 86 cells ∧ OkS Try.prog gs 6 86 cells) :
    ∃ x : TalkF (startH gs), a = .agg ⟨[.int .u32 x.x.first, .int .i64 x.x.size, .int .i64 x.x.tmo, .int .u32 x.y.first, .int .i64 x.y.size, .int .i64 x.y.tmo]⟩ ∧ b = .slice x.sa x.ss.length x.sc := by
  obtain ⟨us, rfl, h⟩ := h
  obtain ⟨ws, rfl, k⟩ := k
  obtain ⟨hl, hf⟩ := (OkS.okA _ _ _ h).array vt58 vo58 vo57
  match us, hl with
  | [v0, v1, v2, v3, v4, v5], _ =>
    obtain ⟨x, e0, hx⟩ := nw_of (hf 0 (by decide))
    obtain ⟨y, e1, hy⟩ := nw_of (hf 1 (by decide))
    obtain ⟨sa, ss, sc, r, rfl, ⟨hsl, _⟩, hsr, hslt, hso⟩ := k.slice (f := StF.cells) (Q := fun x => ∃ r, StOk_ (startH gs) x r) vt86 vo88 (fun _ => rfl) fun us h => st_of h
    unfold NwF.cells at e0 e1
    simp only [Nat.zero_mul, Nat.one_mul, List.drop_zero, List.take_succ_cons, List.take_zero, List.drop_succ_cons] at e0 e1
    cases e0; cases e1
    exact ⟨⟨x, y, ss, sa, sc, r, hx, hy, hsl, hsr, hslt, hso⟩, by unfold argV; rw [vg58]; rfl, by unfold argV; rw [vg86]; rfl⟩
end Go.E.St
/- StreamsWindow. -/
namespace Go.E.St
open Go Go.E Go.ChangeShapes Go.WideShapes Go.ChangeAt Go.RowKit Go.Proofs.Ytamcfhhcmjagnaa Go.Proofs
set_option linter.unusedVariables false
set_option linter.unusedSimpArgs false
set_option maxRecDepth 100000
theorem TkOk.up {t : Tk} {P : List (Value × List Int)} {i : Nat} (h : TkOk t P i) : TkOk t P (i + 1) := by
  have h1 := h.al
  have h2 := h.wl0
  have h3 := h.wl1
  have h4 := h.now
  exact ⟨h.i0, h.i1, h.n0, h.n1, h.v0, h.v1, h.air, by omega, by omega, by omega, by omega, h.ck⟩
end Go.E.St
/- A segment that was taken already changes no stream: in plain Lean. -/
namespace Go.E.St
open Go Go.E Go.Proofs.Ytamcfhhcmjagnaa Go.Proofs
set_option linter.unusedVariables false
set_option linter.unusedSimpArgs false
set_option maxRecDepth 100000
theorem read_one (s : Cn) {n : Int} (h : 0 ≤ n) : (s.read n).1 = s.inc.take (s.readK n) := by
  unfold Cn.read
  split
  · rename_i he
    show [] = s.inc.take (s.readK n)
    unfold Cn.readE at he
    rw [if_neg (by omega)] at he
    split at he
    · exact absurd rfl he
    · rename_i h0
      have : s.inc = [] := List.eq_nil_of_length_eq_zero (by omega)
      rw [this, List.take_nil]
  · rfl
theorem fl_13 {f : Int} (h0 : 0 ≤ f ∧ f ≤ 15) (h : bitAnd .i64 f 13 = 0) : has f 1 = false ∧ has f 4 = false ∧ has f 8 = false := by
  have hf : f = 0 ∨ f = 1 ∨ f = 2 ∨ f = 3 ∨ f = 4 ∨ f = 5 ∨ f = 6 ∨ f = 7 ∨ f = 8 ∨ f = 9 ∨ f = 10 ∨ f = 11 ∨ f = 12 ∨ f = 13 ∨ f = 14 ∨ f = 15 := by omega
  rcases hf with rfl | rfl | rfl | rfl | rfl | rfl | rfl | rfl | rfl | rfl | rfl | rfl | rfl | rfl | rfl | rfl <;> first | decide | (exact absurd h (by decide))
theorem old_take {s : Cn} {g : Sg} (hl : lenS g ≤ s.skip0 g) : s.take g = s := by
  unfold Cn.take
  rw [if_pos (.inr (.inr hl))]
theorem old_in {s : Cn} {g : Sg} {now : Int} (hi : Inv s) (hst : 4 ≤ s.st ∧ s.st ≠ 9) (hv : SgV g) (hf : bitAnd .i64 g.fl 13 = 0) (hb : before s.rcv (IntKind.u32.wrap (g.seq + g.data.length)) = false) (hn : 0 ≤ now ∧ now ≤ 1099511627776) (hc : s.clock ≤ now) :
    s.inputE g now = 0 ∧ (s.input g now).inc = s.inc ∧ (s.input g now).rcv = s.rcv := by
  obtain ⟨hv1, hv2⟩ := hv
  have hg := sgOk_of hv1 hv2
  obtain ⟨f1, f4, f8⟩ := fl_13 hg.fl hf
  have he : s.inputE g now = 0 := by
    unfold Cn.inputE
    rw [if_neg (fun k => k hn), if_neg (fun k => k hv1), if_neg (by omega), if_neg hst.2, if_neg (by omega)]
  have hrc := hi.ok.rcv
  have hdl := hg.data
  have hln : lenS g = g.data.length := by
    unfold lenS
    rw [f1, f4]
    show (g.data.length : Int) + 0 + 0 = _
    omega
  have hsk : ∀ c : Cn, c.rcv = s.rcv → lenS g ≤ c.skip0 g := fun c hcr => by
    unfold Cn.skip0
    rw [hcr, hln, wrap_u32]
    rw [before_eq, wrap_u32] at hb
    replace hb := of_decide_eq_false hb
    omega
  refine ⟨he, ?_⟩
  unfold Cn.input
  rw [he, if_neg (by decide)]
  obtain ⟨c, hcc⟩ : ∃ c : Cn, c = { s with clock := now } := ⟨_, rfl⟩
  have c1 : c.st = s.st ∧ c.inc = s.inc ∧ c.rcv = s.rcv := by rw [hcc]; exact ⟨rfl, rfl, rfl⟩
  rw [← hcc]
  obtain ⟨c1, c2, c3⟩ := c1
  unfold Cn.inp
  rw [if_neg (by omega), if_neg (by omega)]
  split
  · exact ⟨c2, c3⟩
  · unfold Cn.segment
    rw [f8, if_neg (by simp)]
    have hA : (c.segA g now).inc = s.inc ∧ (c.segA g now).rcv = s.rcv := by
      have h1 : (c.seg1 g).inc = c.inc ∧ (c.seg1 g).rcv = c.rcv := by unfold Cn.seg1; split <;> exact ⟨rfl, rfl⟩
      have h2 : ∀ d : Cn, (d.seg2 g now).inc = d.inc ∧ (d.seg2 g now).rcv = d.rcv := fun d => by unfold Cn.seg2; split <;> exact ⟨rfl, rfl⟩
      unfold Cn.segA
      split
      · exact ⟨(h2 _).1.trans (h1.1.trans c2), (h2 _).2.trans (h1.2.trans c3)⟩
      · exact ⟨c2, c3⟩
    unfold Cn.segB
    split
    · exact hA
    split
    · rw [old_take (hsk { c.segA g now with due := true } hA.2)]
      exact hA
    · exact hA
end Go.E.St
/- StreamsOld. -/
namespace Go.E.St
open Go Go.E Go.ChangeShapes Go.WideShapes Go.ChangeAt Go.RowKit Go.Proofs.Ytamcfhhcmjagnaa Go.Proofs
set_option linter.unusedVariables false
set_option linter.unusedSimpArgs false
set_option maxRecDepth 100000
def PsOk (P : List (Value × List Int)) (f : Fl) : Prop := (f.to = 0 ∨ f.to = 1) ∧ SgV f.g ∧ (f.v, f.g.data) ∈ P ∧ ∃ a c, f.v = .slice a f.g.data.length c
theorem FlOk.ps {t : Tk} {P : List (Value × List Int)} {f : Fl} (h : FlOk t P f) : PsOk P f := by
  obtain ⟨h1, h2, h3, h4⟩ := h
  exact ⟨by rcases h1 with h | h; exact .inl h.1; exact .inr h.1, h2, h3, h4⟩
theorem read_rcv (s : Cn) (n : Int) : (s.read n).2.2.rcv = s.rcv := by
  unfold Cn.read
  split <;> rfl
theorem L9 {B : AHeap} (x : TalkF B) : wpF C 9 [.agg ⟨[.int .u32 x.x.first, .int .i64 x.x.size, .int .i64 x.x.tmo, .int .u32 x.y.first, .int .i64 x.y.size, .int .i64 x.y.tmo]⟩, .slice x.sa x.ss.length x.sc] B fun v _ => v = .bool true := by
  obtain ⟨x, y, ss, sa, sc, r, hx, hy, hl, hrd, hlt, hok⟩ := x
  dsimp only
  have hS := S.start B
  refine wpF_ofW o9 rfl rfl ?_
  refine zsr ?_; refine wpO_cons ?_; refine op1_boxNS rfl rfl rfl hS ?_; intro p1 H1 hS; refine zw1 ?_; refine zns ?_; refine zsr ?_; refine wpO_cons ?_; refine op1_load_6 rfl rfl (by exact S.g0 hS) rfl rfl ?_; refine wpO_cons ?_; refine op1_call1 rfl (by (conv => lhs; whnf) <;> rfl) ?_
  refine wpF_mono (L23 hx hy hS) ?_
  clear hS
  rintro _ H2 ⟨b, t0, P0, rfl, ht0, hS⟩
  unfold ptC
  refine zw1 ?_; refine wpO_cons ?_; refine op1_extract rfl rfl rfl ?_; refine wpO_cons ?_; refine op1_extract rfl rfl rfl ?_; refine zw1 ?_; refine zw1 ?_; refine zns ?_; refine wp_seq ?_; refine zsr ?_; refine zw1 ?_; refine wpO_cons ?_; refine op1_not_t rfl rfl ?_; refine zns ?_; refine wp_false rfl ?_; refine wp_skip ?_; refine seq_normal ?_; refine wp_seq ?_; refine zsr ?_; refine zw1 ?_; refine wpO_cons ?_; refine op1_len rfl rfl ?_; refine wpO_cons ?_; refine op1_gtr rfl rfl rfl ?_; refine zns ?_
  refine wp_dec rfl (fun h1 => ?_) (fun h1 => ?_)
  · refine zsr ?_; refine wpO_cons ?_; refine op1_call0 rfl  ?_; refine wpF_known rfl (globAll _) ?_; refine zw1 ?_; refine zns ?_; refine wp_ret ?_; refine seq_ret ?_; refine ret_of ?_; refine zr ?_; refine rk_nil ?_
    rfl
  refine wp_skip ?_; refine seq_normal ?_; refine zsr ?_; refine zw1 ?_; refine zns ?_; refine wp_seq ?_; refine zsr ?_; refine zw1 ?_; refine wpO_cons ?_; refine op1_len rfl rfl ?_; refine zw1 ?_; refine zns ?_; refine wp_block ?_
  refine wp_loop [7, 39] (fun k vs H' => ∃ (i : Nat) (t : Tk) (P : List (Value × List Int)) (ps : List Fl) (pa : Option Addr) (pc n : Nat), vs = [.slice pa n pc, .int .i64 i] ∧ n = ps.length ∧ n ≤ 200 ∧ k = ss.length - i ∧ i ≤ ss.length ∧ TkOk t P i ∧ (∀ f ∈ ps, PsOk P f) ∧ S B H' [repT b t P, sl 6 (.slice pa n pc) (ps.flatMap Fl.cells)]) ⟨_, 0, t0, P0, [], none, 0, 0, rfl, rfl, by omega, rfl, by omega, ht0, by simp, S.up1 (S.slNil (S.drop (S.up1 hS)))⟩ ?_
  clear hS
  rintro k vs T2 H3 ⟨i, t, P, ps, pa, pc, n, rfl, hn, hn2, rfl, hi, ht, hps, hS⟩
  refine zsr ?_; refine wpO_cons ?_; refine op1_lss rfl rfl rfl ?_; refine zns ?_; refine wp_seq ?_
  refine wp_dec rfl (fun h2 => ?_) (fun h2 => ?_)
  rotate_left
  · refine wp_exit ?_; refine seq_exit ?_; refine iter_exit ?_; refine block_exit ?_; refine seq_normal ?_; refine zsr ?_; refine wpO_cons ?_; refine op1_call0 rfl  ?_; refine wpF_known rfl (globAll _) ?_; refine zw1 ?_; refine zns ?_; refine wp_ret ?_; refine ret_of ?_; refine zr ?_; refine rk_nil ?_
    rfl
  obtain ⟨x, hx⟩ : ∃ x, ss[i]? = some x := ⟨ss[i]'(by omega), by simp⟩
  obtain ⟨r2, hxo⟩ := hok x (List.mem_of_getElem? hx)
  obtain ⟨b2, off, cs, e1, ro, rfl, hg, hle, hrow⟩ := RdS.row (f := StF.cells) (fun _ => rfl) (hS.rdB hrd hlt) rfl hx
  obtain ⟨X, hX⟩ := openT hS
  obtain ⟨p0, p1, q0, q1, aa, ca, w0, w1, r0, r1⟩ := X
  dsimp only at hX
  clear hS
  have hS := hX
  clear hX
  unfold tkC ptC at hS
  have hal := ht.al
  refine wp_skip ?_; refine seq_normal ?_; refine wp_seq ?_; refine wp_block ?_; refine zsr ?_; refine wpO_cons ?_; refine op1_iaddr rfl rfl rfl (by omega) (by omega) ?_; refine wpO_cons ?_
  refine op1_loadN rfl rfl hg hle hrow ?_
  unfold StF.cells
  refine wpO_cons ?_; refine op1_allocS rfl hS ?_; intro p2 H4 hS; refine wpO_cons ?_; (refine op1_storeNS rfl rfl (by (conv => lhs; whnf) <;> rfl) rfl rfl (S.up0 hS) (Nat.le_of_ble_eq_true rfl) ?_; intro H5 hS; replace hS := S.dn0 hS); refine zns ?_; refine zsr ?_; refine zw1 ?_; refine zw1 ?_; refine zn ?_; refine zf ?_; refine zh (S.g1 hS) ?_; refine wpO_cons ?_
  obtain ⟨x5, hx5, _⟩ := S.rd (S.up6 hS)
  refine op1_appRS rfl rfl (by (conv => lhs; whnf) <;> rfl) rfl hx5 (fl_len _) (fl_one _ fun f hf => by obtain ⟨_, _, _, a, c, e⟩ := ht.air f hf; exact ⟨a, _, c, e⟩) (S.up12 hS) (by omega) ?_
  intro a6 c6 H6 hS
  rw [← List.flatMap_append] at hS
  obtain ⟨qs, hqs⟩ : ∃ qs, qs = ps ++ t.air := ⟨_, rfl⟩
  have hql : qs.length = n + t.air.length := by rw [hqs, List.length_append, hn]
  have hqo : ∀ f ∈ qs, PsOk P f := fun f hf => by
    rw [hqs] at hf
    rcases List.mem_append.1 hf with hf | hf
    · exact hps f hf
    · exact (ht.air f hf).ps
  rw [← hqs, ← hql] at hS
  rw [← hql]
  clear hqs hps hx5
  refine zw1 ?_; refine zns ?_; refine wp_seq ?_; refine zsr ?_; refine zw1 ?_; refine wpO_cons ?_; refine op1_load_5 rfl rfl (by exact S.g1 hS) rfl rfl ?_; refine wpO_cons ?_; refine op1_call2 rfl (by (conv => lhs; whnf) <;> rfl) (by (conv => lhs; whnf) <;> rfl) ?_
  refine wpF_mono (L33 (x := x) ht (by omega) hxo.time hxo.kind hxo.which hxo.n hxo.l (RD.base hxo.rd hxo.lt) (closeT (S.dn12 (S.dn12 hS)))) ?_
  clear hS
  rintro _ H9 ⟨rfl, t', P', ht', hPP, hS⟩
  replace hqo : ∀ f ∈ qs, PsOk P' f := fun f hf => by
    obtain ⟨a1, a2, a3, a4⟩ := hqo f hf
    exact ⟨a1, a2, hPP _ a3, a4⟩
  refine wpO_cons ?_; refine op1_not_t rfl rfl ?_; refine zns ?_; refine wp_false rfl ?_; refine wp_skip ?_; refine seq_normal ?_
  refine wp_cut [7] (fun vs H' => ∃ (rs : List Fl) (ra : Option Addr) (rc m : Nat), vs = [.slice ra m rc] ∧ m = rs.length ∧ m ≤ 200 ∧ (∀ f ∈ rs, PsOk P' f) ∧ S B H' [repT b t' P', sl 6 (.slice ra m rc) (rs.flatMap Fl.cells)]) ?_ ?_
  · refine zsr ?_; refine zw1 ?_; refine wpO_cons ?_; refine op1_len rfl rfl ?_; refine wpO_cons ?_; refine op1_gtr rfl rfl rfl ?_; refine zns ?_
    refine wp_dec rfl (fun h3 => ?_) (fun h3 => ?_)
    rotate_left
    · refine wp_skip ?_; refine cut1 (by (conv => lhs; whnf) <;> rfl) ?_
      exact ⟨qs, _, _, qs.length, rfl, rfl, by omega, hqo, S.drop (S.up2 hS)⟩
    refine wp_region ?_; refine zw1 ?_; refine zw1 ?_; refine wpO_cons ?_; refine op1_len rfl rfl ?_; refine wpO_cons ?_; refine op1_sub rfl rfl rfl (by exact wrap_i64 (by omega) (by omega)) ?_; refine wpO_cons ?_
    obtain ⟨k, hk⟩ : ∃ k : Nat, (qs.length : Int) - 200 = k := ⟨qs.length - 200, by omega⟩
    rw [hk]
    obtain ⟨qb, qo, qcs, rfl, hqc, hqlc, hqx, hS⟩ := S.slBlk (S.up1 hS) (by omega)
    refine op1_slice rfl rfl (by omega) (bnds_lo (i := .i64) (n := (k : Int)) (by omega) (by omega) hqlc) hS.get (.inr rfl) ?_
    simp only [Int.toNat_natCast]
    refine zw1 ?_; refine wpO_nil ?_; refine cut1 (by (conv => lhs; whnf) <;> rfl) ?_
    have h9 := S.slOf (es := 6) (off := qo + k * 6) (l := qs.length - k) (c := c6 - k) hS (by omega) (by omega)
    have e9 : (qcs.drop (qo + k * 6)).take ((qs.length - k) * 6) = (qs.drop k).flatMap Fl.cells := by
      rw [← fl_drop, hqx, List.drop_take, List.drop_drop]
      congr 1
      omega
    rw [e9] at h9
    exact ⟨qs.drop k, _, _, _, rfl, by rw [List.length_drop], by omega, fun f hf => hqo f (List.mem_of_mem_drop hf), S.up1 (S.drop (S.up2 h9))⟩
  clear hS
  rintro vs3 T3 H10 ⟨rs, ra, rc, m, rfl, hm, hm2, hro, hS⟩
  refine zsr ?_; refine zw1 ?_; refine wpO_cons ?_; refine op1_len rfl rfl ?_; refine zw1 ?_; refine zns ?_; refine wp_block ?_
  refine wp_loop [63] (fun k vs H' => ∃ j : Nat, vs = [.int .i64 j] ∧ k = m - j ∧ j ≤ m ∧ S B H' [repT b t' P', sl 6 (.slice ra m rc) (rs.flatMap Fl.cells)]) ⟨_, 0, rfl, rfl, by omega, hS⟩ ?_
  clear hS
  rintro k vs T4 H11 ⟨j, rfl, rfl, hj, hS⟩
  refine zsr ?_; refine wpO_cons ?_; refine op1_lss rfl rfl rfl ?_; refine zns ?_; refine wp_seq ?_
  refine wp_dec rfl (fun h4 => ?_) (fun h4 => ?_)
  rotate_left
  · refine wp_exit ?_; refine seq_exit ?_; refine iter_exit ?_; refine block_exit ?_; refine block_normal ?_; refine seq_normal ?_; refine wp_region ?_; refine wpO_cons ?_; refine op1_add rfl rfl rfl (by exact wrap_i64 (by omega) (by omega)) ?_; refine zw1 ?_; refine wpO_nil ?_
    exact ⟨ss.length - (i + 1), by omega, i + 1, t', P', rs, ra, rc, m, rfl, hm, hm2, rfl, by omega, ht', hro, hS⟩
  obtain ⟨f, hf⟩ : ∃ f, rs[j]? = some f := ⟨rs[j]'(by omega), by simp⟩
  obtain ⟨fto, fsv, fp, fa, fc, fv⟩ := hro f (List.mem_of_getElem? hf)
  have hcut : ((rs.flatMap Fl.cells).drop (j * 6)).take 6 = [.int .i64 f.to, .int .i64 f.g.fl, .int .u32 f.g.seq, .int .u32 f.g.num, .int .i64 f.g.win, .slice fa f.g.data.length fc] := by
    rw [flatMap_cut (f := Fl.cells) (fun _ => rfl) hf, Fl.cells, fv]
    rfl
  obtain ⟨lb1, lo, lcs, rfl, _⟩ := S.slBlk (S.up1 hS) (by omega)
  have hS9 := hS
  obtain ⟨X, hX⟩ := openT hS
  obtain ⟨p0, p1, q0, q1, aa, ca, w0, w1, r0, r1⟩ := X
  dsimp only at hX
  clear hS
  have hS := hX
  clear hX
  unfold tkC ptC at hS
  rcases fto with fto | fto
  · rw [fto] at hcut
    have hinv := ht'.i0
    have hck := ht'.ck
    have hnw := ht'.now
    obtain ⟨s, hs⟩ : ∃ s, s = t'.s0 := ⟨_, rfl⟩
    refine wp_skip ?_; refine seq_normal ?_; refine wp_seq ?_; refine wp_block ?_; refine zsr ?_; refine wpO_cons ?_; refine op1_iaddr rfl rfl rfl (by omega) (by omega) ?_; refine wpO_cons ?_; refine op1_loadNL rfl rfl (S.up11 hS) rfl rfl (by omega) rfl ?_; refine wpO_cons ?_; refine op1_allocS rfl hS ?_; intro p3 H7 hS; refine wpO_cons ?_
    rw [show (j : Int).toNat = j from rfl, hcut]
    (refine op1_storeNS rfl rfl (by (conv => lhs; whnf) <;> rfl) rfl rfl (S.up0 hS) (Nat.le_of_ble_eq_true rfl) ?_; intro H8 hS; replace hS := S.dn0 hS); refine zns ?_; refine wp_seq ?_; refine wp_regionD ?_; refine zd1 ?_; refine zg ?_; refine zj (S.g0 hS) ?_; refine zm ?_; refine zg ?_; refine wpD_cons ?_; refine op1_iaddrArr rfl rfl rfl (by omega) (by omega) ?_; refine zj (S.g1 hS) ?_; refine zd1 ?_; refine wpD_nil ?_; refine dk_of ?_ ?_; (iterate 2 refine chk_skip ?_); refine zx 6 ?_ ?_; refine zy 0 ?_ ?_; exact zq (S.g0 hS); exact chkFs_nil; (iterate 3 refine chk_skip ?_); refine zx 2 ?_ ?_; refine zy 0 ?_ ?_; exact zq (S.g1 hS); exact chkFs_nil; refine chk_skip ?_; exact chk_end; refine seq_normal ?_; refine zsr ?_; refine zw1 ?_; refine wpO_cons ?_; refine op1_call1 rfl (by (conv => lhs; whnf) <;> rfl) ?_
    refine wpF_mono (L35 (S.up2 hS)) ?_
    rintro _ H12 ⟨rfl, rfl⟩
    refine zw1 ?_; refine wpO_cons ?_; refine op1_extract rfl rfl rfl ?_; refine wpO_cons ?_; refine op1_extract rfl rfl rfl ?_; refine wpO_cons ?_; refine op1_extract rfl rfl rfl ?_; refine zw1 ?_; refine zw1 ?_; refine zw1 ?_; refine zns ?_; refine zsr ?_; refine zf ?_; refine wpO_cons ?_; refine op1_faddr rfl rfl ?_; refine zh (S.g0 hS) ?_; refine zf ?_; refine wpO_cons ?_; refine op1_faddr rfl rfl ?_; refine zh (S.g0 hS) ?_; refine wpO_cons ?_; refine op1_len rfl rfl ?_; refine wpO_cons ?_
    have hfd : f.g.data.length ≤ 256 := (sgOk_of fsv.1 fsv.2).data
    refine op1_convInt rfl rfl (by rw [wrap_u32]; omega) ?_
    refine wpO_cons ?_
    refine op1_addW rfl rfl rfl ?_
    refine zw1 ?_; refine zns ?_; refine wp_seq ?_; refine zsr ?_; refine zf ?_; refine wpO_cons ?_; refine op1_faddr rfl rfl ?_; refine zh (S.g0 hS) ?_; refine wpO_cons ?_; refine op1_and rfl rfl rfl ?_; refine wpO_cons ?_; refine op1_neqI rfl rfl rfl ?_; refine zw1 ?_; refine wpO_cons ?_
    refine op1_ndec rfl (fun h5 => ?_) (fun h5 => ?_)
    · refine op1_skip rfl ?_; (iterate 4 refine zk ?_); refine zt ?_; refine zw1 ?_; (iterate 3 refine zk ?_); refine zt ?_; refine zw1 ?_; (iterate 3 refine zk ?_); refine zt ?_; refine zw1 ?_; (iterate 3 refine zk ?_); refine zt ?_; refine zns ?_; refine wp_true rfl ?_; refine wp_exit ?_; refine seq_exit ?_; refine block_exit ?_; refine seq_normal ?_; refine wp_region ?_; refine wpO_cons ?_; refine op1_add rfl rfl rfl (by exact wrap_i64 (by omega) (by omega)) ?_; refine zw1 ?_; refine wpO_nil ?_
      exact ⟨m - (j + 1), by omega, j + 1, rfl, rfl, by omega, closeT (S.drop hS)⟩
    refine op1_faddr0 rfl rfl ?_; refine wpO_cons ?_; refine op1_faddr rfl rfl ?_; refine zh (S.g0 hS) ?_; refine wpO_cons ?_; refine op1_len rfl rfl ?_; refine wpO_cons ?_; refine op1_eqlI rfl rfl rfl ?_; refine zu ?_; refine zw1 ?_; refine wpO_cons ?_
    refine op1_dec rfl (fun h6 => ?_) (fun h6 => ?_)
    · refine op1_skip rfl ?_; refine zk ?_; refine zk ?_; refine zt ?_; refine zw1 ?_; (iterate 3 refine zk ?_); refine zt ?_; refine zw1 ?_; (iterate 3 refine zk ?_); refine zt ?_; refine zns ?_; refine wp_true rfl ?_; refine wp_exit ?_; refine seq_exit ?_; refine block_exit ?_; refine seq_normal ?_; refine wp_region ?_; refine wpO_cons ?_; refine op1_add rfl rfl rfl (by exact wrap_i64 (by omega) (by omega)) ?_; refine zw1 ?_; refine wpO_nil ?_
      exact ⟨m - (j + 1), by omega, j + 1, rfl, rfl, by omega, closeT (S.drop hS)⟩
    refine op1_mov rfl (by (conv => lhs; whnf) <;> rfl) ?_; refine zw1 ?_; refine wpO_cons ?_; refine op1_call2 rfl (by (conv => lhs; whnf) <;> rfl) (by (conv => lhs; whnf) <;> rfl) ?_
    refine wpF_mono L10 ?_
    rintro _ H13 ⟨rfl, rfl⟩
    obtain ⟨bf, hbf⟩ : ∃ z, z = before t'.s0.rcv (IntKind.u32.wrap (f.g.seq + f.g.data.length)) := ⟨_, rfl⟩
    rw [← hbf]
    cases bf
    rotate_left
    · refine zu ?_; refine zw1 ?_; (iterate 3 refine zk ?_); refine zt ?_; refine zw1 ?_; (iterate 3 refine zk ?_); refine zt ?_; refine zns ?_; refine wp_true rfl ?_; refine wp_exit ?_; refine seq_exit ?_; refine block_exit ?_; refine seq_normal ?_; refine wp_region ?_; refine wpO_cons ?_; refine op1_add rfl rfl rfl (by exact wrap_i64 (by omega) (by omega)) ?_; refine zw1 ?_; refine wpO_nil ?_
      exact ⟨m - (j + 1), by omega, j + 1, rfl, rfl, by omega, closeT (S.drop hS)⟩
    refine zu ?_; refine zw1 ?_; refine zw1 ?_; refine wpO_cons ?_; refine op1_call1 rfl (by (conv => lhs; whnf) <;> rfl) ?_
    refine wpF_mono (L27 (S.up2 hS)) ?_
    rintro _ H13 ⟨rfl, rfl⟩
    refine wpO_cons ?_; refine op1_lss rfl rfl rfl ?_; refine zu ?_; refine zw1 ?_; refine wpO_cons ?_
    refine op1_dec rfl (fun h7 => ?_) (fun h7 => ?_)
    · refine op1_skip rfl ?_; refine zk ?_; refine zk ?_; refine zt ?_; refine zns ?_; refine wp_true rfl ?_; refine wp_exit ?_; refine seq_exit ?_; refine block_exit ?_; refine seq_normal ?_; refine wp_region ?_; refine wpO_cons ?_; refine op1_add rfl rfl rfl (by exact wrap_i64 (by omega) (by omega)) ?_; refine zw1 ?_; refine wpO_nil ?_
      exact ⟨m - (j + 1), by omega, j + 1, rfl, rfl, by omega, closeT (S.drop hS)⟩
    refine op1_mov rfl (by (conv => lhs; whnf) <;> rfl) ?_; refine wpO_cons ?_; refine op1_call1 rfl (by (conv => lhs; whnf) <;> rfl) ?_
    refine wpF_mono (L27 (S.up2 hS)) ?_
    rintro _ H13 ⟨rfl, rfl⟩
    refine wpO_cons ?_; refine op1_eqlI rfl rfl rfl ?_; refine zu ?_; refine zns ?_
    refine wp_dec rfl (fun h8 => ?_) (fun h8 => ?_)
    · refine wp_exit ?_; refine seq_exit ?_; refine block_exit ?_; refine seq_normal ?_; refine wp_region ?_; refine wpO_cons ?_; refine op1_add rfl rfl rfl (by exact wrap_i64 (by omega) (by omega)) ?_; refine zw1 ?_; refine wpO_nil ?_
      exact ⟨m - (j + 1), by omega, j + 1, rfl, rfl, by omega, closeT (S.drop hS)⟩
    refine wp_skip ?_; refine seq_normal ?_; refine zsr ?_; refine zw1 ?_; refine wpO_cons ?_; refine op1_call1 rfl (by (conv => lhs; whnf) <;> rfl) ?_
    refine wpF_mono (L36 hinv.ok (S.up2 hS)) ?_
    clear hS
    rintro _ H14 ⟨u1, rfl, hS⟩
    unfold ptC
    refine zw1 ?_; refine wpO_cons ?_; refine op1_call1 rfl (by (conv => lhs; whnf) <;> rfl) ?_
    refine wpF_mono (L36 hinv.ok (S.up1 hS)) ?_
    clear hS
    rintro _ H15 ⟨u2, rfl, hS⟩
    unfold ptC
    refine zw1 ?_; refine zw1 ?_; refine zns ?_; refine wp_seq ?_; refine wp_seq ?_; refine wp_regionD ?_; refine zd1 ?_; refine zg ?_; refine wpD_cons ?_; refine op1_load_5 rfl rfl (by exact S.g3 hS) rfl rfl ?_; refine zd1 ?_; refine zm ?_; refine zg ?_; refine zj (S.g4 hS) ?_; refine wpD_cons ?_; refine op1_call3 rfl (by (conv => lhs; whnf) <;> rfl) (by (conv => lhs; whnf) <;> rfl) (by (conv => lhs; whnf) <;> rfl) ?_
    have hw9 : 0 ≤ t'.now ∧ t'.now ≤ 1099511627776 := by omega
    have hol := old_in hinv ⟨by omega, h8⟩ fsv h5 hbf.symm hw9 hck.1
    have hrd9 : RD B [pool P', sl 6 (Value.slice (some { block := lb1, off := lo }) m rc) (List.flatMap Fl.cells rs)] 1 (.slice fa f.g.data.length fc) (u8s f.g.data) := by
      have h9 := pool_rd (B := B) (As := [sl 6 (Value.slice (some { block := lb1, off := lo }) m rc) (List.flatMap Fl.cells rs)]) fp
      dsimp only at h9
      rw [fv] at h9
      exact h9
    have hT15 := hS
    refine wpF_mono (L38 (g := f.g) hinv.ok fsv.2 hrd9.cons.cons.cons.cons.cons.cons.cons.cons.cons.cons.cons.cons (S.up2 hS)) ?_
    clear hS
    rintro _ H16 ⟨rfl, hS⟩
    rw [hol.1]
    refine wpD_cons ?_; refine op1_neqI_s rfl rfl rfl ?_; refine wpD_nil ?_; refine dk_of ?_ ?_; (iterate 2 refine chk_skip ?_); refine zx 7 ?_ ?_; refine zy 2 ?_ ?_; exact chk_loadN rfl (by exact S.g3 hT15) rfl rfl rfl; exact chkFs_nil; (iterate 3 refine chk_skip ?_); refine zx 3 ?_ ?_; refine zy 2 ?_ ?_; exact zq (S.g4 hT15); exact chkFs_nil; (iterate 2 refine chk_skip ?_); exact chk_end; refine seq_normal ?_; refine wp_false rfl ?_; refine wp_skip ?_; refine seq_normal ?_; refine zsr ?_; refine zw1 ?_; refine wpO_cons ?_; refine op1_call2 rfl (by (conv => lhs; whnf) <;> rfl) (by (conv => lhs; whnf) <;> rfl) ?_
    refine wpF_mono (L37 (n := 1048576) (hinv.input fsv.2).ok hS) ?_
    clear hS
    rintro _ H17 ⟨va, rfl, hS⟩
    refine zw1 ?_; refine wpO_cons ?_; refine op1_extract rfl rfl rfl ?_; refine wpO_cons ?_; refine op1_extract rfl rfl rfl ?_; refine zw1 ?_; refine zw1 ?_; refine zns ?_; refine zsr ?_; refine zw1 ?_; refine wpO_cons ?_; refine op1_call2 rfl (by (conv => lhs; whnf) <;> rfl) (by (conv => lhs; whnf) <;> rfl) ?_
    refine wpF_mono (L37 (n := 1048576) hinv.ok (S.up2 hS)) ?_
    clear hS
    rintro _ H18 ⟨vb, rfl, hS⟩
    refine zw1 ?_; refine wpO_cons ?_; refine op1_extract rfl rfl rfl ?_; refine wpO_cons ?_; refine op1_extract rfl rfl rfl ?_; refine zw1 ?_; refine zw1 ?_; refine zns ?_; refine zsr ?_; refine zw1 ?_; refine wpO_cons ?_; refine op1_call1 rfl (by (conv => lhs; whnf) <;> rfl) ?_
    refine wpF_mono (L35 (S.up3 hS)) ?_
    rintro _ H19 ⟨rfl, rfl⟩
    refine zw1 ?_; refine wpO_cons ?_; refine op1_extract rfl rfl rfl ?_; refine wpO_cons ?_; refine op1_extract rfl rfl rfl ?_; refine wpO_cons ?_; refine op1_extract rfl rfl rfl ?_; refine zw1 ?_; refine zw1 ?_; refine zw1 ?_; refine zns ?_; refine zsr ?_; refine zw1 ?_; refine zw1 ?_; refine wpO_cons ?_; refine op1_call2 rfl (by (conv => lhs; whnf) <;> rfl) (by (conv => lhs; whnf) <;> rfl) ?_
    have he9 : (((t'.s0).input f.g t'.now).read 1048576).1 = ((t'.s0).read 1048576).1 := by
      rw [read_one _ (by decide), read_one _ (by decide)]
      unfold Cn.readK
      rw [hol.2.1]
    have hr9 : (((t'.s0).input f.g t'.now).read 1048576).2.2.rcv = (t'.s0).rcv := by
      rw [read_rcv, hol.2.2]
    have hl9 : ((t'.s0).read 1048576).1.length ≤ 4096 := by have := read_len (t'.s0) 1048576; have := hinv.ok.inc; omega
    obtain ⟨x1, hx1, _⟩ := S.rd (S.up2 hS)
    obtain ⟨x2, hx2, _⟩ := S.rd hS
    refine wpF_mono (L22 hx1 (by rw [he9]; omega) hx2 (by omega)) ?_
    rintro _ H20 ⟨rfl, rfl⟩
    rw [decide_eq_true he9, hr9]
    refine wpO_cons ?_; refine op1_not_t rfl rfl ?_; refine zw1 ?_; refine zw1 ?_; refine zw1 ?_; refine wpO_cons ?_; refine op1_neqI_s rfl rfl rfl ?_; refine zu ?_; refine zns ?_; refine wp_false rfl ?_; refine wp_skip ?_; refine block_normal ?_; refine seq_normal ?_; refine wp_region ?_; refine wpO_cons ?_; refine op1_add rfl rfl rfl (by exact wrap_i64 (by omega) (by omega)) ?_; refine zw1 ?_; refine wpO_nil ?_
    exact ⟨m - (j + 1), by omega, j + 1, rfl, rfl, by omega, closeT (S.up1 (S.drop (S.up1 (S.drop (S.drop (S.drop (S.drop hS)))))))⟩
  · rw [fto] at hcut
    have hinv := ht'.i1
    have hck := ht'.ck
    have hnw := ht'.now
    obtain ⟨s, hs⟩ : ∃ s, s = t'.s1 := ⟨_, rfl⟩
    refine wp_skip ?_; refine seq_normal ?_; refine wp_seq ?_; refine wp_block ?_; refine zsr ?_; refine wpO_cons ?_; refine op1_iaddr rfl rfl rfl (by omega) (by omega) ?_; refine wpO_cons ?_; refine op1_loadNL rfl rfl (S.up11 hS) rfl rfl (by omega) rfl ?_; refine wpO_cons ?_; refine op1_allocS rfl hS ?_; intro p3 H7 hS; refine wpO_cons ?_
    rw [show (j : Int).toNat = j from rfl, hcut]
    (refine op1_storeNS rfl rfl (by (conv => lhs; whnf) <;> rfl) rfl rfl (S.up0 hS) (Nat.le_of_ble_eq_true rfl) ?_; intro H8 hS; replace hS := S.dn0 hS); refine zns ?_; refine wp_seq ?_; refine wp_regionD ?_; refine zd1 ?_; refine zg ?_; refine zj (S.g0 hS) ?_; refine zm ?_; refine zg ?_; refine wpD_cons ?_; refine op1_iaddrArr rfl rfl rfl (by omega) (by omega) ?_; refine zj (S.g1 hS) ?_; refine zd1 ?_; refine wpD_nil ?_; refine dk_of ?_ ?_; (iterate 2 refine chk_skip ?_); refine zx 6 ?_ ?_; refine zy 0 ?_ ?_; exact zq (S.g0 hS); exact chkFs_nil; (iterate 3 refine chk_skip ?_); refine zx 2 ?_ ?_; refine zy 0 ?_ ?_; exact zq (S.g1 hS); exact chkFs_nil; refine chk_skip ?_; exact chk_end; refine seq_normal ?_; refine zsr ?_; refine zw1 ?_; refine wpO_cons ?_; refine op1_call1 rfl (by (conv => lhs; whnf) <;> rfl) ?_
    refine wpF_mono (L35 (S.up3 hS)) ?_
    rintro _ H12 ⟨rfl, rfl⟩
    refine zw1 ?_; refine wpO_cons ?_; refine op1_extract rfl rfl rfl ?_; refine wpO_cons ?_; refine op1_extract rfl rfl rfl ?_; refine wpO_cons ?_; refine op1_extract rfl rfl rfl ?_; refine zw1 ?_; refine zw1 ?_; refine zw1 ?_; refine zns ?_; refine zsr ?_; refine zf ?_; refine wpO_cons ?_; refine op1_faddr rfl rfl ?_; refine zh (S.g0 hS) ?_; refine zf ?_; refine wpO_cons ?_; refine op1_faddr rfl rfl ?_; refine zh (S.g0 hS) ?_; refine wpO_cons ?_; refine op1_len rfl rfl ?_; refine wpO_cons ?_
    have hfd : f.g.data.length ≤ 256 := (sgOk_of fsv.1 fsv.2).data
    refine op1_convInt rfl rfl (by rw [wrap_u32]; omega) ?_
    refine wpO_cons ?_
    refine op1_addW rfl rfl rfl ?_
    refine zw1 ?_; refine zns ?_; refine wp_seq ?_; refine zsr ?_; refine zf ?_; refine wpO_cons ?_; refine op1_faddr rfl rfl ?_; refine zh (S.g0 hS) ?_; refine wpO_cons ?_; refine op1_and rfl rfl rfl ?_; refine wpO_cons ?_; refine op1_neqI rfl rfl rfl ?_; refine zw1 ?_; refine wpO_cons ?_
    refine op1_ndec rfl (fun h5 => ?_) (fun h5 => ?_)
    · refine op1_skip rfl ?_; (iterate 4 refine zk ?_); refine zt ?_; refine zw1 ?_; (iterate 3 refine zk ?_); refine zt ?_; refine zw1 ?_; (iterate 3 refine zk ?_); refine zt ?_; refine zw1 ?_; (iterate 3 refine zk ?_); refine zt ?_; refine zns ?_; refine wp_true rfl ?_; refine wp_exit ?_; refine seq_exit ?_; refine block_exit ?_; refine seq_normal ?_; refine wp_region ?_; refine wpO_cons ?_; refine op1_add rfl rfl rfl (by exact wrap_i64 (by omega) (by omega)) ?_; refine zw1 ?_; refine wpO_nil ?_
      exact ⟨m - (j + 1), by omega, j + 1, rfl, rfl, by omega, closeT (S.drop hS)⟩
    refine op1_faddr0 rfl rfl ?_; refine wpO_cons ?_; refine op1_faddr rfl rfl ?_; refine zh (S.g0 hS) ?_; refine wpO_cons ?_; refine op1_len rfl rfl ?_; refine wpO_cons ?_; refine op1_eqlI rfl rfl rfl ?_; refine zu ?_; refine zw1 ?_; refine wpO_cons ?_
    refine op1_dec rfl (fun h6 => ?_) (fun h6 => ?_)
    · refine op1_skip rfl ?_; refine zk ?_; refine zk ?_; refine zt ?_; refine zw1 ?_; (iterate 3 refine zk ?_); refine zt ?_; refine zw1 ?_; (iterate 3 refine zk ?_); refine zt ?_; refine zns ?_; refine wp_true rfl ?_; refine wp_exit ?_; refine seq_exit ?_; refine block_exit ?_; refine seq_normal ?_; refine wp_region ?_; refine wpO_cons ?_; refine op1_add rfl rfl rfl (by exact wrap_i64 (by omega) (by omega)) ?_; refine zw1 ?_; refine wpO_nil ?_
      exact ⟨m - (j + 1), by omega, j + 1, rfl, rfl, by omega, closeT (S.drop hS)⟩
    refine op1_mov rfl (by (conv => lhs; whnf) <;> rfl) ?_; refine zw1 ?_; refine wpO_cons ?_; refine op1_call2 rfl (by (conv => lhs; whnf) <;> rfl) (by (conv => lhs; whnf) <;> rfl) ?_
    refine wpF_mono L10 ?_
    rintro _ H13 ⟨rfl, rfl⟩
    obtain ⟨bf, hbf⟩ : ∃ z, z = before t'.s1.rcv (IntKind.u32.wrap (f.g.seq + f.g.data.length)) := ⟨_, rfl⟩
    rw [← hbf]
    cases bf
    rotate_left
    · refine zu ?_; refine zw1 ?_; (iterate 3 refine zk ?_); refine zt ?_; refine zw1 ?_; (iterate 3 refine zk ?_); refine zt ?_; refine zns ?_; refine wp_true rfl ?_; refine wp_exit ?_; refine seq_exit ?_; refine block_exit ?_; refine seq_normal ?_; refine wp_region ?_; refine wpO_cons ?_; refine op1_add rfl rfl rfl (by exact wrap_i64 (by omega) (by omega)) ?_; refine zw1 ?_; refine wpO_nil ?_
      exact ⟨m - (j + 1), by omega, j + 1, rfl, rfl, by omega, closeT (S.drop hS)⟩
    refine zu ?_; refine zw1 ?_; refine zw1 ?_; refine wpO_cons ?_; refine op1_call1 rfl (by (conv => lhs; whnf) <;> rfl) ?_
    refine wpF_mono (L27 (S.up3 hS)) ?_
    rintro _ H13 ⟨rfl, rfl⟩
    refine wpO_cons ?_; refine op1_lss rfl rfl rfl ?_; refine zu ?_; refine zw1 ?_; refine wpO_cons ?_
    refine op1_dec rfl (fun h7 => ?_) (fun h7 => ?_)
    · refine op1_skip rfl ?_; refine zk ?_; refine zk ?_; refine zt ?_; refine zns ?_; refine wp_true rfl ?_; refine wp_exit ?_; refine seq_exit ?_; refine block_exit ?_; refine seq_normal ?_; refine wp_region ?_; refine wpO_cons ?_; refine op1_add rfl rfl rfl (by exact wrap_i64 (by omega) (by omega)) ?_; refine zw1 ?_; refine wpO_nil ?_
      exact ⟨m - (j + 1), by omega, j + 1, rfl, rfl, by omega, closeT (S.drop hS)⟩
    refine op1_mov rfl (by (conv => lhs; whnf) <;> rfl) ?_; refine wpO_cons ?_; refine op1_call1 rfl (by (conv => lhs; whnf) <;> rfl) ?_
    refine wpF_mono (L27 (S.up3 hS)) ?_
    rintro _ H13 ⟨rfl, rfl⟩
    refine wpO_cons ?_; refine op1_eqlI rfl rfl rfl ?_; refine zu ?_; refine zns ?_
    refine wp_dec rfl (fun h8 => ?_) (fun h8 => ?_)
    · refine wp_exit ?_; refine seq_exit ?_; refine block_exit ?_; refine seq_normal ?_; refine wp_region ?_; refine wpO_cons ?_; refine op1_add rfl rfl rfl (by exact wrap_i64 (by omega) (by omega)) ?_; refine zw1 ?_; refine wpO_nil ?_
      exact ⟨m - (j + 1), by omega, j + 1, rfl, rfl, by omega, closeT (S.drop hS)⟩
    refine wp_skip ?_; refine seq_normal ?_; refine zsr ?_; refine zw1 ?_; refine wpO_cons ?_; refine op1_call1 rfl (by (conv => lhs; whnf) <;> rfl) ?_
    refine wpF_mono (L36 hinv.ok (S.up3 hS)) ?_
    clear hS
    rintro _ H14 ⟨u1, rfl, hS⟩
    unfold ptC
    refine zw1 ?_; refine wpO_cons ?_; refine op1_call1 rfl (by (conv => lhs; whnf) <;> rfl) ?_
    refine wpF_mono (L36 hinv.ok (S.up1 hS)) ?_
    clear hS
    rintro _ H15 ⟨u2, rfl, hS⟩
    unfold ptC
    refine zw1 ?_; refine zw1 ?_; refine zns ?_; refine wp_seq ?_; refine wp_seq ?_; refine wp_regionD ?_; refine zd1 ?_; refine zg ?_; refine wpD_cons ?_; refine op1_load_5 rfl rfl (by exact S.g3 hS) rfl rfl ?_; refine zd1 ?_; refine zm ?_; refine zg ?_; refine zj (S.g4 hS) ?_; refine wpD_cons ?_; refine op1_call3 rfl (by (conv => lhs; whnf) <;> rfl) (by (conv => lhs; whnf) <;> rfl) (by (conv => lhs; whnf) <;> rfl) ?_
    have hw9 : 0 ≤ t'.now ∧ t'.now ≤ 1099511627776 := by omega
    have hol := old_in hinv ⟨by omega, h8⟩ fsv h5 hbf.symm hw9 hck.2
    have hrd9 : RD B [pool P', sl 6 (Value.slice (some { block := lb1, off := lo }) m rc) (List.flatMap Fl.cells rs)] 1 (.slice fa f.g.data.length fc) (u8s f.g.data) := by
      have h9 := pool_rd (B := B) (As := [sl 6 (Value.slice (some { block := lb1, off := lo }) m rc) (List.flatMap Fl.cells rs)]) fp
      dsimp only at h9
      rw [fv] at h9
      exact h9
    have hT15 := hS
    refine wpF_mono (L38 (g := f.g) hinv.ok fsv.2 hrd9.cons.cons.cons.cons.cons.cons.cons.cons.cons.cons.cons.cons (S.up2 hS)) ?_
    clear hS
    rintro _ H16 ⟨rfl, hS⟩
    rw [hol.1]
    refine wpD_cons ?_; refine op1_neqI_s rfl rfl rfl ?_; refine wpD_nil ?_; refine dk_of ?_ ?_; (iterate 2 refine chk_skip ?_); refine zx 7 ?_ ?_; refine zy 2 ?_ ?_; exact chk_loadN rfl (by exact S.g3 hT15) rfl rfl rfl; exact chkFs_nil; (iterate 3 refine chk_skip ?_); refine zx 3 ?_ ?_; refine zy 2 ?_ ?_; exact zq (S.g4 hT15); exact chkFs_nil; (iterate 2 refine chk_skip ?_); exact chk_end; refine seq_normal ?_; refine wp_false rfl ?_; refine wp_skip ?_; refine seq_normal ?_; refine zsr ?_; refine zw1 ?_; refine wpO_cons ?_; refine op1_call2 rfl (by (conv => lhs; whnf) <;> rfl) (by (conv => lhs; whnf) <;> rfl) ?_
    refine wpF_mono (L37 (n := 1048576) (hinv.input fsv.2).ok hS) ?_
    clear hS
    rintro _ H17 ⟨va, rfl, hS⟩
    refine zw1 ?_; refine wpO_cons ?_; refine op1_extract rfl rfl rfl ?_; refine wpO_cons ?_; refine op1_extract rfl rfl rfl ?_; refine zw1 ?_; refine zw1 ?_; refine zns ?_; refine zsr ?_; refine zw1 ?_; refine wpO_cons ?_; refine op1_call2 rfl (by (conv => lhs; whnf) <;> rfl) (by (conv => lhs; whnf) <;> rfl) ?_
    refine wpF_mono (L37 (n := 1048576) hinv.ok (S.up2 hS)) ?_
    clear hS
    rintro _ H18 ⟨vb, rfl, hS⟩
    refine zw1 ?_; refine wpO_cons ?_; refine op1_extract rfl rfl rfl ?_; refine wpO_cons ?_; refine op1_extract rfl rfl rfl ?_; refine zw1 ?_; refine zw1 ?_; refine zns ?_; refine zsr ?_; refine zw1 ?_; refine wpO_cons ?_; refine op1_call1 rfl (by (conv => lhs; whnf) <;> rfl) ?_
    refine wpF_mono (L35 (S.up3 hS)) ?_
    rintro _ H19 ⟨rfl, rfl⟩
    refine zw1 ?_; refine wpO_cons ?_; refine op1_extract rfl rfl rfl ?_; refine wpO_cons ?_; refine op1_extract rfl rfl rfl ?_; refine wpO_cons ?_; refine op1_extract rfl rfl rfl ?_; refine zw1 ?_; refine zw1 ?_; refine zw1 ?_; refine zns ?_; refine zsr ?_; refine zw1 ?_; refine zw1 ?_; refine wpO_cons ?_; refine op1_call2 rfl (by (conv => lhs; whnf) <;> rfl) (by (conv => lhs; whnf) <;> rfl) ?_
    have he9 : (((t'.s1).input f.g t'.now).read 1048576).1 = ((t'.s1).read 1048576).1 := by
      rw [read_one _ (by decide), read_one _ (by decide)]
      unfold Cn.readK
      rw [hol.2.1]
    have hr9 : (((t'.s1).input f.g t'.now).read 1048576).2.2.rcv = (t'.s1).rcv := by
      rw [read_rcv, hol.2.2]
    have hl9 : ((t'.s1).read 1048576).1.length ≤ 4096 := by have := read_len (t'.s1) 1048576; have := hinv.ok.inc; omega
    obtain ⟨x1, hx1, _⟩ := S.rd (S.up2 hS)
    obtain ⟨x2, hx2, _⟩ := S.rd hS
    refine wpF_mono (L22 hx1 (by rw [he9]; omega) hx2 (by omega)) ?_
    rintro _ H20 ⟨rfl, rfl⟩
    rw [decide_eq_true he9, hr9]
    refine wpO_cons ?_; refine op1_not_t rfl rfl ?_; refine zw1 ?_; refine zw1 ?_; refine zw1 ?_; refine wpO_cons ?_; refine op1_neqI_s rfl rfl rfl ?_; refine zu ?_; refine zns ?_; refine wp_false rfl ?_; refine wp_skip ?_; refine block_normal ?_; refine seq_normal ?_; refine wp_region ?_; refine wpO_cons ?_; refine op1_add rfl rfl rfl (by exact wrap_i64 (by omega) (by omega)) ?_; refine zw1 ?_; refine wpO_nil ?_
    exact ⟨m - (j + 1), by omega, j + 1, rfl, rfl, by omega, closeT (S.dn2 (S.drop (S.up1 (S.drop (S.drop (S.drop (S.drop hS)))))))⟩
end Go.E.St
