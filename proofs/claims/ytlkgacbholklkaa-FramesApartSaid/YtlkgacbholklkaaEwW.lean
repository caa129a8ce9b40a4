/-
  THE EVALUATOR WITH CHOICES, PART W: calls, as the least that the code gives; closed runs.
-/
import Derived.Test.YtlkgacbholklkaaEwV
set_option linter.unusedSimpArgs false
set_option linter.unusedVariables false
namespace Go.E
open Go
variable {P : Program} {G : Nat}
/-! ### one level of a call -/
def stepW (N : NProg) (C : Callees) (f : Fid) (args : List Value) (H : AHeap) (R : Value → AHeap → Prop) : Prop :=
  match f with
  | .fn f => ∃ g, N.fn f = some g ∧ args.length ≤ g.ntmps ∧ dstOk g.ntmps g.body = true ∧ wp C g.body (entF args) H (retK g.results R)
  | .yield b => ∃ pend l ps asg body ca cb, H.get b = .loop .ready pend l ps asg body ∧ N.code asg = some ca ∧ N.code body = some cb ∧ args.length = ps.length ∧
      (dstOk l.length ca && dstOk l.length cb && ps.all fun p => decide (p < l.length)) = true ∧ wp C ca (overF (ofL l) ps args) H (AssignG C b cb R)

theorem retK_mono {rs : List NRes} {R R' : Value → AHeap → Prop} (k : ∀ v H, R v H → R' v H) (x : NX) (T : FEnv) (H : AHeap) (h : retK rs R x T H) : retK rs R' x T H := by
  cases x with
  | exit i => exact h
  | normal => obtain ⟨vs, h1, h2⟩ := h; exact ⟨vs, h1, k _ _ h2⟩
  | ret => obtain ⟨vs, h1, h2⟩ := h; exact ⟨vs, h1, k _ _ h2⟩

theorem assignG_mono {C C' : Callees} (hC : C.le C') {b : Nat} {cb : NCode} {R R' : Value → AHeap → Prop} (k : ∀ v H, R v H → R' v H) (x : NX) (T : FEnv) (H : AHeap) (h : AssignG C b cb R x T H) : AssignG C' b cb R' x T H := by
  obtain ⟨h1, pend, l, ps, asg, body, h2, h3⟩ := h
  refine ⟨h1, pend, l, ps, asg, body, h2, wp_monoC hC cb h3 ?_⟩
  rintro x T H ⟨pend, l, ps, asg, body, h4, h5⟩
  exact ⟨pend, l, ps, asg, body, h4, k _ _ h5⟩

theorem stepW_mono {N : NProg} {C C' : Callees} (hC : C.le C') {f : Fid} {args : List Value} {H : AHeap} {R R' : Value → AHeap → Prop} (h : stepW N C f args H R) (k : ∀ v H, R v H → R' v H) : stepW N C' f args H R' := by
  cases f with
  | fn f =>
    obtain ⟨g, h1, h2, h3, h4⟩ := h
    exact ⟨g, h1, h2, h3, wp_monoC hC g.body h4 (retK_mono k)⟩
  | yield b =>
    obtain ⟨pend, l, ps, asg, body, ca, cb, h1, h2, h3, h4, h5, h6⟩ := h
    exact ⟨pend, l, ps, asg, body, ca, cb, h1, h2, h3, h4, h5, wp_monoC hC ca h6 (assignG_mono hC k)⟩

theorem enterN_len {g : NFunc} {args : List Value} (h : args.length ≤ g.ntmps) : (enterN g args).length = g.ntmps := by
  simp only [enterN, List.length_append, List.length_replicate]; omega

theorem stepW_feas {N : NProg} {C : Callees} {f : Fid} {args : List Value} {H : AHeap} {R : Value → AHeap → Prop} (h : stepW N C f args H R) : ∃ v H', R v H' := by
  cases f with
  | fn f =>
    obtain ⟨g, h1, h2, h3, h4⟩ := h
    rw [← ofL_enter g] at h4
    obtain ⟨x, l', H', hq, _⟩ := wp_feas g.body (enterN g args) H _ (by rw [enterN_len h2]; exact h3) h4
    cases x with
    | exit i => exact hq.elim
    | normal => obtain ⟨vs, _, h⟩ := hq; exact ⟨_, _, h⟩
    | ret => obtain ⟨vs, _, h⟩ := hq; exact ⟨_, _, h⟩
  | yield b =>
    obtain ⟨pend, l, ps, asg, body, ca, cb, h1, h2, h3, h4, h5, h6⟩ := h
    simp only [Bool.and_eq_true] at h5
    obtain ⟨⟨hd1, hd2⟩, hd3⟩ := h5
    obtain ⟨ho1, ho2⟩ := ofL_over ps args l hd3
    rw [← ho1] at h6
    obtain ⟨x, l1, H1, ⟨rfl, pend1, l1', ps1, asg1, body1, hg1, hw⟩, hl1, _⟩ := wp_feas ca _ H _ (by rw [ho2]; exact hd1) h6
    obtain ⟨x, l2, H2, ⟨pend2, l2', ps2, asg2, body2, hg2, hR⟩, _⟩ := wp_feas cb l1 _ _ (by rw [hl1, ho2]; exact hd2) hw
    exact ⟨_, _, hR⟩

structure Extra (P : Program) (G : Nat) where
  step : Callees → Fid → List Value → AHeap → (Value → AHeap → Prop) → Prop
  mono : ∀ {C C' : Callees} {f : Fid} {args : List Value} {H : AHeap} {R R' : Value → AHeap → Prop}, C.le C' → step C f args H R → (∀ v H', R v H' → R' v H') → step C' f args H R'
  feas : ∀ {C : Callees} {f : Fid} {args : List Value} {H : AHeap} {R : Value → AHeap → Prop}, step C f args H R → ∃ v H', R v H'
  sound : ∀ {C : Callees}, CalleesOk P G C → ∀ {f : Fid} {args : List Value} {H : AHeap} {R : Value → AHeap → Prop}, step C f args H R →
    ∀ {φ : Phi} {args' : List Value} {w : World}, GOk G φ → VRs φ args args' → Sim φ H w → FidOk P (GivesR φ H w R) φ args'.toArray w f

def Extra.none (P : Program) (G : Nat) : Extra P G where
  step _ _ _ _ _ := False
  mono _ h _ := h
  feas h := h.elim
  sound _ _ _ _ _ h := h.elim

def Extra.or (X Y : Extra P G) : Extra P G where
  step C f args H R := X.step C f args H R ∨ Y.step C f args H R
  mono hC h k := h.imp (fun h => X.mono hC h k) fun h => Y.mono hC h k
  feas h := h.elim X.feas Y.feas
  sound hC _ _ _ _ h _ _ _ hg ha hs := h.elim (fun h => X.sound hC h hg ha hs) fun h => Y.sound hC h hg ha hs

def callsX (X : Extra P G) : Callees where
  run f args H R := ∀ Z : Callees, (∀ f args H R, stepW (cProg P G) Z f args H R ∨ X.step Z f args H R → Z.run f args H R) → Z.run f args H R
  mono h k Z hZ := Z.mono (h Z hZ) k
  feas h := h ⟨fun _ _ _ R => ∃ v H', R v H', fun ⟨v, H', h⟩ k => ⟨v, H', k _ _ h⟩, fun h => h⟩ fun f args H R h => h.elim stepW_feas X.feas

theorem callsX_in {X : Extra P G} {f : Fid} {args : List Value} {H : AHeap} {R : Value → AHeap → Prop} (h : stepW (cProg P G) (callsX X) f args H R ∨ X.step (callsX X) f args H R) : (callsX X).run f args H R := by
  intro Z hZ
  have hle : (callsX X).le Z := fun f args H R h => h Z hZ
  exact hZ _ _ _ _ (h.imp (fun h => stepW_mono hle h fun _ _ h => h) fun h => X.mono hle h fun _ _ h => h)

theorem FidOk.mono {R R' : Ending → World → Prop} (k : ∀ e w, R e w → R' e w) {φ : Phi} {args : Array Value} {w : World} {f : Fid} (h : FidOk P R φ args w f) : FidOk P R' φ args w f := by
  cases f with
  | fn f => exact ⟨h.1, Calls.mono h.2 k⟩
  | yield b =>
    intro m hm
    obtain ⟨fn, tmps, asg, body, h1, h2⟩ := h m hm
    exact ⟨fn, tmps, asg, body, h1, RoundIn.mono (F := Fence.wide) h2 k⟩

theorem callsX_ok (hm : P.follows .mixedOrders = true) (X : Extra P G) : CalleesOk P G (callsX X) := by
  intro f args H R h
  let Z : Callees := ⟨fun f args H R => (∃ v H', R v H') ∧ ∀ φ args' w, GOk G φ → VRs φ args args' → Sim φ H w → FidOk P (GivesR φ H w R) φ args'.toArray w f,
    fun h k => ⟨h.1.elim fun v h => h.elim fun H' h => ⟨v, H', k _ _ h⟩, fun φ args' w hg ha hs => (h.2 φ args' w hg ha hs).mono fun e w' ⟨v, H', h1, h2⟩ => ⟨v, H', k _ _ h1, h2⟩⟩, fun h => h.1⟩
  have hZ : CalleesOk P G Z := fun f args H R h => h.2
  refine (h Z ?_).2
  intro f args H R h
  refine ⟨h.elim stepW_feas X.feas, fun φ args' w hg ha hs => ?_⟩
  rcases h with h | h
  · cases f with
    | fn f =>
      obtain ⟨g, h1, h2, h3, h4⟩ := h
      exact body_sound hm hZ h1 h2 h3 h4 hg ha hs
    | yield b =>
      obtain ⟨pend, l, ps, asg, body, ca, cb, h1, h2, h3, h4, h5, h6⟩ := h
      exact round_sound hm hZ h1 h2 h3 h4 h5 h6 hg ha hs
  · exact X.sound hZ h hg ha hs

/-! ### how functions are opened -/
def Opens (C : Callees) (f : Nat) (g : NFunc) : Prop := ∀ args H R, args.length ≤ g.ntmps → dstOk g.ntmps g.body = true → wp C g.body (entF args) H (retK g.results R) → C.run (.fn f) args H R
theorem opens_of {X : Extra P G} {f : Nat} {g : NFunc} (hN : (cProg P G).fn f = some g) : Opens (callsX X) f g := fun _ _ _ ha hd h => callsX_in (.inl ⟨g, hN, ha, hd, h⟩)

theorem wpF_of {C : Callees} {f : Nat} {g : NFunc} (ho : Opens C f g) {args : List Value} (ha : decide (args.length ≤ g.ntmps) = true) (hd : dstOk g.ntmps g.body = true) {H : AHeap} {R : Value → AHeap → Prop}
    (h : wp C g.body (entF args) H (retK g.results R)) : wpF C f args H R := ho args H R (of_decide_eq_true ha) hd h

def OpensY (C : Callees) (code : Code → Option NCode) : Prop := ∀ b args H R pend l ps asg body ca cb, H.get b = .loop .ready pend l ps asg body → code asg = some ca → code body = some cb → args.length = ps.length →
      (dstOk l.length ca && dstOk l.length cb && ps.all fun p => decide (p < l.length)) = true → wp C ca (overF (ofL l) ps args) H (AssignG C b cb R) → C.run (.yield b) args H R
theorem opensY_of {X : Extra P G} : OpensY (callsX X) (cProg P G).code := fun _ _ _ _ _ _ _ _ _ _ _ h1 h2 h3 h4 h5 h6 => callsX_in (.inl ⟨_, _, _, _, _, _, _, h1, h2, h3, h4, h5, h6⟩)

/-! ### closed runs of the evaluator -/
section
variable {D : Callee} {Z : Callees} (hZ : ∀ f args H v H', D f args H = some (v, H') → Z.run f args H fun v' H2 => v' = v ∧ H2 = H')
include hZ
theorem stepN_wp {o : NOper} {l l' : Env} {H H' : AHeap} {n : Nat} (hd : (match o.dst with | some d => decide (d < l.length) | none => true) = true) (h : stepN D o l H = some (l', H')) :
    l'.length = l.length ∧ ((wantedF o.guard (ofL l) = false ∧ putF (ofL l) o.dst undef = ofL l' ∧ H = H') ∨ (wantedF o.guard (ofL l) = true ∧ resW Z (o.op.sub (ofL l)) H fun v H2 => putF (ofL l) o.dst v = ofL l' ∧ H2 = H')) := by
  unfold stepN at h
  rw [wanted_ofL''] at h
  split at h
  · rename_i hw
    unfold resW
    rw [eop_sub]
    split at h
    · rename_i v H1 he
      cases h
      rw [he]
      exact ⟨put_length _ _ _, .inr ⟨hw, (ofL_put hd v).symm, rfl⟩⟩
    · rename_i f args H1 he
      simp only [Option.map_eq_some_iff, Prod.mk.injEq] at h
      obtain ⟨⟨v, H2⟩, hc, rfl, rfl⟩ := h
      rw [he]
      refine ⟨put_length _ _ _, .inr ⟨hw, Z.mono (hZ _ _ _ _ _ hc) ?_⟩⟩
      rintro v' H' ⟨rfl, rfl⟩
      exact ⟨(ofL_put hd _).symm, rfl⟩
    · cases h
  · rename_i hw
    cases h
    exact ⟨put_length _ _ _, .inl ⟨by simpa using hw, (ofL_put hd _).symm, rfl⟩⟩

theorem runOps_wp : ∀ (ops : List NOper) (l : Env) (H : AHeap) {l' : Env} {H' : AHeap}, dstOkO l.length ops = true → runOps D ops l H = some (l', H') → l'.length = l.length ∧ wpO Z ops (ofL l) H fun T H2 => T = ofL l' ∧ H2 = H'
  | [], l, H, l', H', _, h => by cases h; exact ⟨rfl, rfl, rfl⟩
  | o :: r, l, H, l', H', hd, h => by
    simp only [dstOkO, Bool.and_eq_true] at hd
    simp only [runOps] at h
    split at h
    case h_2 => cases h
    rename_i l1 H1 h1
    obtain ⟨hl1, hs⟩ := stepN_wp hZ (n := 0) hd.1 h1
    obtain ⟨hl2, h2⟩ := runOps_wp r l1 H1 (by rw [hl1]; exact hd.2) h
    refine ⟨hl2.trans hl1, ?_⟩
    simp only [wpO]
    rcases hs with ⟨hw, e1, rfl⟩ | ⟨hw, hs⟩
    · rw [hw]; simp only; rw [e1]; exact h2
    · rw [hw]
      refine resW_mono (Callees.le_refl _) hs ?_
      rintro v H2 ⟨e1, rfl⟩
      rw [e1]; exact h2

theorem runD_wp : ∀ (ops : List NOper) (l : Env) (H : AHeap) (acc : List (Env × AHeap)) {sts : List (Env × AHeap)} {l' : Env} {H' : AHeap}, dstOkO l.length ops = true → runD D ops l H acc = some (sts, l', H') → l'.length = l.length ∧ wpD Z ops (ofL l) H (ofSts acc) fun a T H2 => a = ofSts sts ∧ T = ofL l' ∧ H2 = H'
  | [], l, H, acc, sts, l', H', _, h => by cases h; exact ⟨rfl, by simp [ofSts], rfl, rfl⟩
  | o :: r, l, H, acc, sts, l', H', hd, h => by
    simp only [dstOkO, Bool.and_eq_true] at hd
    simp only [runD] at h
    split at h
    case h_2 => cases h
    rename_i l1 H1 h1
    obtain ⟨hl1, hs⟩ := stepN_wp hZ (n := 0) hd.1 h1
    obtain ⟨hl2, h2⟩ := runD_wp r l1 H1 _ (by rw [hl1]; exact hd.2) h
    have hacc : ofSts (acc ++ [(l, H)]) = ofSts acc ++ [(ofL l, H)] := by simp [ofSts]
    rw [hacc] at h2
    refine ⟨hl2.trans hl1, ?_⟩
    simp only [wpD]
    rcases hs with ⟨hw, e1, rfl⟩ | ⟨hw, hs⟩
    · rw [hw]; simp only; rw [e1]; exact h2
    · rw [hw]
      refine resW_mono (Callees.le_refl _) hs ?_
      rintro v H2 ⟨e1, rfl⟩
      rw [e1]; exact h2

omit hZ in
theorem chkFs_of {sts : List (Env × AHeap)} {o : NOper} {d : Nat} (ho : o.dst = some d) {l lf : Env} : ∀ (c : List Nat), (c.all fun b => match sts[b]? with | some (_, H) => chkAt o l lf H | none => false) = true → chkFs (ofSts sts) o.op d (ofL lf) (ofL l) c
  | [], _ => trivial
  | b :: c, h => by
    simp only [List.all_cons, Bool.and_eq_true] at h
    refine ⟨?_, chkFs_of ho c h.2⟩
    have h1 := h.1
    rw [ofSts_get]
    cases hb : sts[b]? with
    | none => rw [hb] at h1; cases h1
    | some p =>
      obtain ⟨l1, H⟩ := p
      rw [hb] at h1
      simp only [chkAt, ho] at h1
      split at h1
      · rename_i v H2 he
        refine ⟨H2, ?_⟩
        rw [eop_sub, he, valEq_eq _ _ h1]
        rfl
      · cases h1

omit hZ in
theorem chkF_of {sts : List (Env × AHeap)} {lf : Env} : ∀ (os : List NOper) (cs : List (List Nat)) (r : Nat), chkAll sts lf os cs r = true → chkF (ofSts sts) (ofL lf) os cs r
  | [], cs, r, _ => by cases cs <;> trivial
  | o :: os, [], r, _ => trivial
  | o :: os, [] :: cs, r, h => by
    simp only [chkAll, Bool.and_eq_true] at h
    exact chkF_of os cs (r + 1) h.2
  | o :: os, (b :: c) :: cs, r, h => by
    simp only [chkAll, Bool.and_eq_true, Bool.or_eq_true] at h
    refine ⟨?_, chkF_of os cs (r + 1) h.2⟩
    have h1 := h.1.resolve_left (by simp)
    simp only [chkOne] at h1
    rw [ofSts_get]
    cases hr : sts[r]? with
    | none => rw [hr] at h1; cases h1
    | some p =>
      obtain ⟨l1, H1⟩ := p
      rw [hr] at h1
      simp only [Bool.or_eq_true] at h1
      intro hw
      rw [← wanted_ofL''] at hw
      have h1 := h1.resolve_left (by rw [hw]; simp)
      cases hd : o.dst with
      | none =>
        exfalso
        simp only [List.all_cons, Bool.and_eq_true] at h1
        have h2 := h1.1
        cases hb : sts[b]? with
        | none => rw [hb] at h2; cases h2
        | some p => obtain ⟨l2, H2⟩ := p; rw [hb] at h2; simp [chkAt, hd] at h2
      | some d => exact chkFs_of hd (b :: c) h1

theorem execN_wp {n : Nat} : ∀ (c : NCode) (l : Env) (H : AHeap) {x : NX} {l' : Env} {H' : AHeap}, dstOk l.length c = true → execN D n c l H = some (x, l', H') → l'.length = l.length ∧ wp Z c (ofL l) H fun x' T H2 => x' = x ∧ T = ofL l' ∧ H2 = H'
  | .skip, l, H, x, l', H', _, h => by cases h; exact ⟨rfl, rfl, rfl, rfl⟩
  | .ret, l, H, x, l', H', _, h => by cases h; exact ⟨rfl, rfl, rfl, rfl⟩
  | .exit _, l, H, x, l', H', _, h => by cases h; exact ⟨rfl, rfl, rfl, rfl⟩
  | .stuck, l, H, x, l', H', _, h => by cases h
  | .region ops, l, H, x, l', H', hd, h => by
    simp only [execN] at h
    split at h
    case h_2 => cases h
    rename_i l1 H1 h1
    cases h
    obtain ⟨hl, h2⟩ := runOps_wp hZ ops l H hd h1
    exact ⟨hl, wpO_monoC (Callees.le_refl _) ops h2 fun T H h => ⟨rfl, h⟩⟩
  | .regionD ops chk, l, H, x, l', H', hd, h => by
    simp only [execN] at h
    split at h
    case h_2 => cases h
    rename_i sts l1 H1 h1
    split at h
    case isFalse => cases h
    rename_i hchk
    cases h
    obtain ⟨hl, h2⟩ := runD_wp hZ ops l H [] hd h1
    refine ⟨hl, wpD_monoC (Callees.le_refl _) ops h2 ?_⟩
    rintro a T H ⟨rfl, rfl, rfl⟩
    exact ⟨chkF_of ops chk 0 hchk, rfl, rfl, rfl⟩
  | .seq a b, l, H, x, l', H', hd, h => by
    simp only [dstOk, Bool.and_eq_true] at hd
    simp only [execN] at h
    split at h
    · rename_i l1 H1 h1
      obtain ⟨hl1, h2⟩ := execN_wp a l H hd.1 h1
      obtain ⟨hl2, h3⟩ := execN_wp b l1 H1 (by rw [hl1]; exact hd.2) h
      refine ⟨hl2.trans hl1, wp_monoC (Callees.le_refl _) a h2 ?_⟩
      rintro x T H ⟨rfl, rfl, rfl⟩
      exact h3
    · rename_i hn
      obtain ⟨hl1, h2⟩ := execN_wp a l H hd.1 h
      refine ⟨hl1, wp_monoC (Callees.le_refl _) a h2 ?_⟩
      rintro x' T H' ⟨rfl, rfl, rfl⟩
      cases x' with
      | normal => exact absurd h (hn _ _)
      | exit i => exact ⟨rfl, rfl, rfl⟩
      | ret => exact ⟨rfl, rfl, rfl⟩
  | .cond c a b, l, H, x, l', H', hd, h => by
    simp only [dstOk, Bool.and_eq_true] at hd
    simp only [execN] at h
    simp only [wp, evF_ofL, condK]
    split at h
    · rename_i hc
      rw [hc]
      exact execN_wp a l H hd.1 h
    · rename_i hc
      rw [hc]
      exact execN_wp b l H hd.2 h
    · cases h
  | .block id a, l, H, x, l', H', hd, h => by
    simp only [execN] at h
    split at h
    · rename_i i l1 H1 h1
      obtain ⟨hl1, h2⟩ := execN_wp a l H hd h1
      split at h
      · rename_i e
        cases h
        refine ⟨hl1, wp_monoC (Callees.le_refl _) a h2 ?_⟩
        rintro x T H ⟨rfl, rfl, rfl⟩
        simp only [blockK, if_pos e]
        exact ⟨trivial, trivial, trivial⟩
      · rename_i e
        cases h
        refine ⟨hl1, wp_monoC (Callees.le_refl _) a h2 ?_⟩
        rintro x T H ⟨rfl, rfl, rfl⟩
        simp only [blockK, if_neg e]
        exact ⟨trivial, trivial, trivial⟩
    · rename_i hn
      obtain ⟨hl1, h2⟩ := execN_wp a l H hd h
      refine ⟨hl1, wp_monoC (Callees.le_refl _) a h2 ?_⟩
      rintro x' T H' ⟨rfl, rfl, rfl⟩
      cases x' with
      | normal => exact ⟨rfl, rfl, rfl⟩
      | exit i => exact absurd h (hn _ _ _)
      | ret => exact ⟨rfl, rfl, rfl⟩
  | .loop a, l, H, x, l', H', hd, h => by
    simp only [execN] at h
    have hd' : dstOk l.length a = true := hd
    have hlen : ∀ (k : Nat) (l1 : Env) (H1 : AHeap), l1.length = l.length → loopN (execN D n a) k l1 H1 = some (x, l', H') → l'.length = l.length := by
      intro k
      induction k with
      | zero => intro l1 H1 _ h; cases h
      | succ k ih =>
        intro l1 H1 hl h
        simp only [loopN] at h
        split at h
        · rename_i l2 H2 h1
          exact ih l2 H2 ((execN_wp a l1 H1 (by rw [hl]; exact hd') h1).1.trans hl) h
        · exact (execN_wp a l1 H1 (by rw [hl]; exact hd') h).1.trans hl
    refine ⟨hlen n l H rfl h, fun k T H1 => ∃ l1, T = ofL l1 ∧ l1.length = l.length ∧ loopN (execN D n a) k l1 H1 = some (x, l', H'), ⟨n, l, rfl, rfl, h⟩, ?_⟩
    rintro k T' H1 _ ⟨l1, rfl, hl, h⟩
    cases k with
    | zero => cases h
    | succ k =>
      simp only [loopN] at h
      split at h
      · rename_i l2 H2 h1
        obtain ⟨hl2, h2⟩ := execN_wp a l1 H1 (by rw [hl]; exact hd') h1
        refine wp_monoC (Callees.le_refl _) a h2 ?_
        rintro x' T H' ⟨rfl, rfl, rfl⟩
        exact ⟨k, by omega, l2, rfl, hl2.trans hl, h⟩
      · rename_i hn
        obtain ⟨hl2, h2⟩ := execN_wp a l1 H1 (by rw [hl]; exact hd') h
        refine wp_monoC (Callees.le_refl _) a h2 ?_
        rintro x' T H' ⟨rfl, rfl, rfl⟩
        cases x' with
        | normal => exact absurd h (hn _ _)
        | exit i => exact ⟨rfl, rfl, rfl⟩
        | ret => exact ⟨rfl, rfl, rfl⟩
  | .rangeFunc g ps asg body k, l, H, x, l', H', hd, h => by
    have hd := of_decide_eq_true hd
    have key : l'.length = l.length ∧ rangeK Z (g.ev l) ps asg body l H fun x' H2 => x' = x ∧ ofL l = ofL l' ∧ H2 = H' := by
      simp only [execN] at h
      unfold rangeK
      split at h
      case h_2 => cases h
      rename_i f fs cs hev
      split at h
      case h_2 => cases h
      rename_i v H2 hc
      split at h
      case h_2 => cases h
      rename_i st pend _ _ _ _ hget
      split at h
      case isTrue => cases h
      rename_i hb
      cases h
      refine ⟨rfl, ?_⟩
      rw [hev]
      refine Z.mono (hZ _ _ _ _ _ hc) ?_
      rintro v' H3 ⟨rfl, rfl⟩
      rw [hget]
      exact ⟨by simpa using hb, rfl, rfl, rfl⟩
    refine ⟨key.1, fun l2 hl2 hk => ?_⟩
    have : l2 = l := by
      apply List.ext_getElem?
      intro i
      have e := congrFun hl2 i
      simp only [ofL, List.getD_eq_getElem?_getD] at e
      by_cases hi : i < l.length
      · have hi2 : i < l2.length := by omega
        simp only [List.getElem?_eq_getElem hi, List.getElem?_eq_getElem hi2, Option.getD_some] at e ⊢
        rw [e]
      · rw [List.getElem?_eq_none (by omega), List.getElem?_eq_none (by omega)]
    subst this
    rw [evF_ofL]
    exact key.2

omit hZ in
theorem resultsN_ret {g : NFunc} {x : NX} {l' : Env} {H' : AHeap} {vs : List Value} (hx : ∀ i, x ≠ .exit i) (hv : resultsN l' H' g.results = some vs) {x' : NX} {T : FEnv} {H2 : AHeap} (h : x' = x ∧ T = ofL l' ∧ H2 = H') : retK g.results (fun v H => v = resultV vs ∧ H = H') x' T H2 := by
  obtain ⟨rfl, rfl, rfl⟩ := h
  cases x' with
  | exit i => exact absurd rfl (hx i)
  | normal => exact ⟨vs, by rw [resultsF_ofL]; exact hv, rfl, rfl⟩
  | ret => exact ⟨vs, by rw [resultsF_ofL]; exact hv, rfl, rfl⟩
end
theorem callN_run {X : Extra P G} : ∀ (n : Nat) (f : Fid) (args : List Value) (H : AHeap) (v : Value) (H' : AHeap), callN (cProg P G) n f args H = some (v, H') → (callsX X).run f args H fun v' H2 => v' = v ∧ H2 = H'
  | 0, f, args, H, v, H', h => by cases h
  | n + 1, .fn f, args, H, v, H', h => by
    simp only [callN] at h
    split at h
    · cases h
    rename_i g hN
    split at h
    · cases h
    rename_i hck
    simp only [Bool.not_eq_false, Bool.and_eq_true, decide_eq_true_eq] at hck
    split at h
    · cases h
    · rename_i x T H1 hx he
      simp only [Option.map_eq_some_iff, Prod.mk.injEq] at h
      obtain ⟨vs, hv, rfl, rfl⟩ := h
      refine callsX_in (.inl ⟨g, hN, hck.1, hck.2, ?_⟩)
      rw [← ofL_enter g]
      obtain ⟨_, hw⟩ := execN_wp (Z := callsX X) (callN_run n) g.body (enterN g args) H (by rw [enterN_len hck.1]; exact hck.2) he
      refine wp_monoC (Callees.le_refl _) g.body hw fun x' T' H2 h => ?_
      exact resultsN_ret (fun i e => hx i (by rw [e])) hv h
    · cases h
  | n + 1, .yield b, args, H, v, H', h => by
    simp only [callN] at h
    unfold roundN at h
    split at h
    case h_2 => cases h
    rename_i pend0 T0 ps0 asg0 body0 hget
    split at h
    case isFalse => cases h
    rename_i hlen
    split at h
    case h_2 => cases h
    rename_i ca cb hca hcb
    split at h
    case isFalse => cases h
    rename_i hdd
    split at h
    case h_2 => cases h
    rename_i T1 H1 hx1
    split at h
    case h_2 => cases h
    rename_i pend1 Tr psr asgr bodyr hget1
    split at h
    case h_2 => cases h
    rename_i x T2 H3 hx2
    split at h
    case h_2 => cases h
    rename_i pend3 T3 ps3 asg3 body3 hget3
    cases h
    have hdd' := hdd
    simp only [Bool.and_eq_true] at hdd'
    obtain ⟨⟨hd1, hd2⟩, hd3⟩ := hdd'
    obtain ⟨ho1, ho2⟩ := ofL_over ps0 args T0 hd3
    refine callsX_in (.inl ⟨pend0, T0, ps0, asg0, body0, ca, cb, hget, hca, hcb, hlen, hdd, ?_⟩)
    rw [← ho1]
    obtain ⟨hl1, hw1⟩ := execN_wp (Z := callsX X) (callN_run n) ca _ H (by rw [ho2]; exact hd1) hx1
    obtain ⟨hl2, hw2⟩ := execN_wp (Z := callsX X) (callN_run n) cb T1 _ (by rw [hl1, ho2]; exact hd2) hx2
    refine wp_monoC (Callees.le_refl _) ca hw1 ?_
    rintro x1 T H2 ⟨rfl, rfl, rfl⟩
    refine ⟨rfl, pend1, Tr, psr, asgr, bodyr, hget1, wp_monoC (Callees.le_refl _) cb hw2 ?_⟩
    rintro x3 T H4 ⟨rfl, rfl, rfl⟩
    exact ⟨pend3, T3, ps3, asg3, body3, hget3, rfl, rfl⟩

theorem call_sound (hm : P.follows .mixedOrders = true) (n : Nat) {f : Fid} {args : List Value} {H : AHeap} {v : Value} {H' : AHeap} (h : callN (cProg P G) n f args H = some (v, H')) {φ : Phi} {args' : List Value} {w : World} (hg : GOk G φ) (ha : VRs φ args args') (hs : Sim φ H w) :
    FidOk P (Gives φ H w v H') φ args'.toArray w f :=
  (callsX_ok hm (Extra.none P G) f args H _ (callN_run n f args H v H' h) φ args' w hg ha hs).mono fun e w' ⟨v', H2, ⟨e1, e2⟩, h⟩ => by rw [e1, e2] at h; exact h

end Go.E
