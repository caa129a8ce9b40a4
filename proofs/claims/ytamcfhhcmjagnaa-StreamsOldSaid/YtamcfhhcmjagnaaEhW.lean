/-
  THE EVALUATOR, PART W: weakest preconditions over the evaluator's code: for the functions' own lemmas.
-/
import Derived.Test.YtamcfhhcmjagnaaEhV
set_option linter.unusedSimpArgs false
set_option linter.unusedVariables false
namespace Go.E
open Go
abbrev FEnv := Nat → Value
def upd (T : FEnv) (d : Nat) (v : Value) : FEnv := fun i => bif Nat.beq d i then v else T i
def putF (T : FEnv) (d : Option Nat) (v : Value) : FEnv :=
  match d with
  | some d => upd T d v
  | none => T
def ofL (l : Env) : FEnv := fun i => l.getD i undef

def NOpd.sub (T : FEnv) : NOpd → NOpd
  | .t i => .c (T i)
  | .c v => .c v
  | .g i => .g i

def NOpd.evF (T : FEnv) : NOpd → Value
  | .t i => T i
  | .c v => v
  | .g i => .pointer (some ⟨i, 0, none⟩)

def subOpt (T : FEnv) : Option NOpd → Option NOpd
  | none => none
  | some x => some (x.sub T)
def subs (T : FEnv) : List NOpd → List NOpd
  | [] => []
  | x :: r => x.sub T :: subs T r
def subPs (T : FEnv) : List (Nat × Nat × NOpd) → List (Nat × Nat × NOpd)
  | [] => []
  | (o, s, x) :: r => (o, s, x.sub T) :: subPs T r

def NOp.sub (T : FEnv) : NOp → NOp
  | .mov x => .mov (x.sub T)
  | .pick a b c => .pick (a.sub T) (b.sub T) (c.sub T)
  | .alloc a b => .alloc a b
  | .box a x => .box a (x.sub T)
  | .build z ps => .build z (subPs T ps)
  | .bslice a b z ps => .bslice a b z (subPs T ps)
  | .load1 x => .load1 (x.sub T)
  | .loadN n x => .loadN n (x.sub T)
  | .store n a x => .store n (a.sub T) (x.sub T)
  | .nilchk x => .nilchk (x.sub T)
  | .bin op e x y => .bin op e (x.sub T) (y.sub T)
  | .un op x => .un op (x.sub T)
  | .convInt k x => .convInt k (x.sub T)
  | .convStr x => .convStr (x.sub T)
  | .b2s x => .b2s (x.sub T)
  | .s2b x => .s2b (x.sub T)
  | .b2b x => .b2b (x.sub T)
  | .mkfunc f a b => .mkfunc f (subs T a) (subs T b)
  | .mkmap => .mkmap
  | .mkslice a b z l c => .mkslice a b z (l.sub T) (c.sub T)
  | .slice es x lo hi mx => .slice es (x.sub T) (subOpt T lo) (subOpt T hi) (subOpt T mx)
  | .sliceStr x lo hi => .sliceStr (x.sub T) (subOpt T lo) (subOpt T hi)
  | .sliceArr n es x lo hi mx => .sliceArr n es (x.sub T) (subOpt T lo) (subOpt T hi) (subOpt T mx)
  | .faddr k x => .faddr k (x.sub T)
  | .field s k x => .field s k (x.sub T)
  | .iaddr es x i => .iaddr es (x.sub T) (i.sub T)
  | .iaddrArr n es x i => .iaddrArr n es (x.sub T) (i.sub T)
  | .idxStr x i => .idxStr (x.sub T) (i.sub T)
  | .idxArr n s es x i => .idxArr n s es (x.sub T) (i.sub T)
  | .lookup k z m x ok => .lookup k z (m.sub T) (x.sub T) ok
  | .mapupd k m x v => .mapupd k (m.sub T) (x.sub T) (v.sub T)
  | .extract x i => .extract (x.sub T) i
  | .append a b s x => .append a b (s.sub T) (x.sub T)
  | .appendZ a z s x => .appendZ a z (s.sub T) (x.sub T)
  | .copy es d s => .copy es (d.sub T) (s.sub T)
  | .lenC n => .lenC n
  | .len k x => .len k (x.sub T)
  | .minmax b xs => .minmax b (subs T xs)
  | .clear es z x => .clear es z (x.sub T)
  | .clearM x => .clearM (x.sub T)
  | .delete k m x => .delete k (m.sub T) (x.sub T)
  | .rangeM x => .rangeM (x.sub T)
  | .nextM x => .nextM (x.sub T)
  | .rangeS x => .rangeS (x.sub T)
  | .nextS x => .nextS (x.sub T)
  | .entryM x => .entryM (x.sub T)
  | .s2ap n x => .s2ap n (x.sub T)
  | .ixByteS x y => .ixByteS (x.sub T) (y.sub T)
  | .extB c x y => .extB c (x.sub T) (y.sub T)
  | .call f xs => .call (f.sub T) (subs T xs)

theorem ev_sub (l : Env) (x : NOpd) : (x.sub (ofL l)).ev [] = x.ev l := by cases x <;> rfl
theorem evF_ofL (l : Env) (x : NOpd) : x.evF (ofL l) = x.ev l := by cases x <;> rfl
theorem subOpt_ev (l : Env) (x : Option NOpd) : (subOpt (ofL l) x).map (·.ev []) = x.map (·.ev l) := by
  cases x with
  | none => rfl
  | some x => simp [subOpt, ev_sub]
theorem subs_ev (l : Env) : ∀ (xs : List NOpd), (subs (ofL l) xs).map (·.ev []) = xs.map (·.ev l)
  | [] => rfl
  | x :: r => by simp [subs, ev_sub, subs_ev l r]
theorem subPs_ev (l : Env) : ∀ (ps : List (Nat × Nat × NOpd)), (subPs (ofL l) ps).map (fun (o, s, x) => (o, s, x.ev [])) = ps.map (fun (o, s, x) => (o, s, x.ev l))
  | [] => rfl
  | (o, s, x) :: r => by
    have := subPs_ev l r
    simp only [subPs, List.map_cons, ev_sub, this]

theorem eop_sub (o : NOp) (l : Env) (H : AHeap) : eop (o.sub (ofL l)) [] H = eop o l H := by
  cases o <;> simp only [NOp.sub, eop, ev_sub, subOpt_ev, subs_ev, subPs_ev]

theorem ofL_set {l : Env} {d : Nat} (h : d < l.length) (v : Value) : ofL (l.set d v) = upd (ofL l) d v := by
  funext i
  simp only [ofL, upd, List.getD_eq_getElem?_getD]
  by_cases e : d = i
  · subst e
    have : Nat.beq d d = true := Nat.beq_eq ▸ rfl
    simp [h, this]
  · have : Nat.beq d i = false := by
      cases hb : Nat.beq d i with
      | false => rfl
      | true => exact absurd (Nat.eq_of_beq_eq_true hb) e
    simp [List.getElem?_set_ne e, this]

def wantedF (g : Option (Nat × Bool)) (T : FEnv) : Bool :=
  match g with
  | none => true
  | some (d, want) => match T d with
    | .bool b => b == want
    | _ => false

/-! ### the preconditions -/
def wpC (C : Nat → Callee) (f : Fid) (args : List Value) (H : AHeap) (R : Value → AHeap → Prop) : Prop :=
  ∃ v H', R v H' ∧ ∃ n, ∀ m, n ≤ m → C m f args H = some (v, H')
def wpF (C : Nat → Callee) (f : Nat) (args : List Value) (H : AHeap) (R : Value → AHeap → Prop) : Prop := wpC C (.fn f) args H R

theorem wpC_mono {C : Nat → Callee} {f : Fid} {args : List Value} {H : AHeap} {R R' : Value → AHeap → Prop} (h : wpC C f args H R) (k : ∀ v H', R v H' → R' v H') : wpC C f args H R' := by
  obtain ⟨v, H', hr, hn⟩ := h
  exact ⟨v, H', k v H' hr, hn⟩

def rangeK (C : Nat → Callee) (gv : Value) (ps : List Nat) (asg body : Code) (l : Env) (H : AHeap) (Q : NX → AHeap → Prop) : Prop :=
  match gv with
  | .func (.func f) ⟨fs⟩ ⟨cs⟩ => wpC C (.fn f) (fs ++ [.func (.yield H.next) ⟨[]⟩ ⟨[]⟩] ++ cs) (H.add (.loop .ready none l ps asg body)) fun _ H2 => match H2.get H.next with
    | .loop st pend _ _ _ _ => isBusy st = false ∧ Q (jmpX pend) (H2.set H.next .dead)
    | _ => False
  | _ => False

theorem wpF_mono {C : Nat → Callee} {f : Nat} {args : List Value} {H : AHeap} {R R' : Value → AHeap → Prop} (h : wpF C f args H R) (k : ∀ v H', R v H' → R' v H') : wpF C f args H R' := by
  obtain ⟨v, H', hr, hn⟩ := h
  exact ⟨v, H', k v H' hr, hn⟩

def wpO (C : Nat → Callee) : List NOper → FEnv → AHeap → (FEnv → AHeap → Prop) → Prop
  | [], T, H, Q => Q T H
  | o :: r, T, H, Q => match wantedF o.guard T with
    | false => wpO C r (putF T o.dst undef) H Q
    | true => match eop (o.op.sub T) [] H with
      | some (.val v H') => wpO C r (putF T o.dst v) H' Q
      | some (.call f args H') => wpC C f args H' fun v H2 => wpO C r (putF T o.dst v) H2 Q
      | none => False

def wpD (C : Nat → Callee) : List NOper → FEnv → AHeap → List (FEnv × AHeap) → (List (FEnv × AHeap) → FEnv → AHeap → Prop) → Prop
  | [], T, H, acc, Q => Q (acc ++ [(T, H)]) T H
  | o :: r, T, H, acc, Q => match wantedF o.guard T with
    | false => wpD C r (putF T o.dst undef) H (acc ++ [(T, H)]) Q
    | true => match eop (o.op.sub T) [] H with
      | some (.val v H') => wpD C r (putF T o.dst v) H' (acc ++ [(T, H)]) Q
      | some (.call f args H') => wpC C f args H' fun v H2 => wpD C r (putF T o.dst v) H2 (acc ++ [(T, H)]) Q
      | none => False

def chkF1 (o : NOp) (d : Nat) (Tf : FEnv) (T : FEnv) (H : AHeap) : Prop := ∃ H', eop (o.sub T) [] H = some (.val (Tf d) H')
def chkFs (sts : List (FEnv × AHeap)) (o : NOp) (d : Nat) (Tf : FEnv) (T : FEnv) : List Nat → Prop
  | [] => True
  | b :: c => (match sts[b]? with | some (_, H) => chkF1 o d Tf T H | none => False) ∧ chkFs sts o d Tf T c
def chkF (sts : List (FEnv × AHeap)) (Tf : FEnv) : List NOper → List (List Nat) → Nat → Prop
  | o :: os, [] :: cs, r => chkF sts Tf os cs (r + 1)
  | o :: os, (b :: c) :: cs, r => (match sts[r]? with
      | some (T, _) => wantedF o.guard T = true → match o.dst with
        | some d => chkFs sts o.op d Tf T (b :: c)
        | none => False
      | none => False) ∧ chkF sts Tf os cs (r + 1)
  | _, _, _ => True

def asgO : List NOper → List Nat
  | [] => []
  | o :: r => (match o.dst with | some d => [d] | none => []) ++ asgO r

def asg : NCode → List Nat
  | .region ops => asgO ops
  | .regionD ops _ => asgO ops
  | .seq a b => asg a ++ asg b
  | .cond _ a b => asg a ++ asg b
  | .block _ a => asg a
  | .loop a => asg a
  | _ => []

def condK (v : Value) (A B : Prop) : Prop :=
  match v with
  | .bool true => A
  | .bool false => B
  | _ => False

abbrev Post := NX → FEnv → AHeap → Prop

def seqK (W : FEnv → AHeap → Post → Prop) (Q : Post) : Post := fun x T H => match x with
  | .normal => W T H Q
  | x => Q x T H
def blockK (id : Nat) (Q : Post) : Post := fun x T H => match x with
  | .exit i => if i = id then Q .normal T H else Q (.exit i) T H
  | x => Q x T H
def iterK (I : Nat → FEnv → AHeap → Prop) (k : Nat) (Q : Post) : Post := fun x T H => match x with
  | .normal => ∃ k', k' < k ∧ I k' T H
  | x => Q x T H
def dK (ops : List NOper) (chk : List (List Nat)) (Q : Post) : List (FEnv × AHeap) → FEnv → AHeap → Prop :=
  fun sts T H => chkF sts T ops chk 0 ∧ Q .normal T H

def wp (C : Nat → Callee) : NCode → FEnv → AHeap → Post → Prop
  | .skip, T, H, Q => Q .normal T H
  | .region ops, T, H, Q => wpO C ops T H (Q .normal)
  | .regionD ops chk, T, H, Q => wpD C ops T H [] (dK ops chk Q)
  | .seq a b, T, H, Q => wp C a T H (seqK (fun T H Q => wp C b T H Q) Q)
  | .cond c a b, T, H, Q => condK (c.evF T) (wp C a T H Q) (wp C b T H Q)
  | .block id a, T, H, Q => wp C a T H (blockK id Q)
  | .loop a, T, H, Q => ∃ I : Nat → FEnv → AHeap → Prop, (∃ k, I k T H) ∧ ∀ k T' H', (∀ i, i ∉ asg a → T' i = T i) → I k T' H' → wp C a T' H' (iterK I k Q)
  | .exit id, T, H, Q => Q (.exit id) T H
  | .ret, T, H, Q => Q .ret T H
  | .rangeFunc g ps asg body k, T, H, Q => ∀ l, ofL l = T → k ≤ l.length → rangeK C (g.evF T) ps asg body l H fun x H2 => Q x T H2
  | .stuck, _, _, _ => False

/-! ### soundness -/
def dstOkO (N : Nat) : List NOper → Bool
  | [] => true
  | o :: r => (match o.dst with | some d => decide (d < N) | none => true) && dstOkO N r
def dstOk (N : Nat) : NCode → Bool
  | .region ops => dstOkO N ops
  | .regionD ops _ => dstOkO N ops
  | .seq a b => dstOk N a && dstOk N b
  | .cond _ a b => dstOk N a && dstOk N b
  | .block _ a => dstOk N a
  | .loop a => dstOk N a
  | .rangeFunc _ _ _ _ k => decide (k ≤ N)
  | _ => true

theorem ofL_put {l : Env} {d : Option Nat} (h : (match d with | some d => decide (d < l.length) | none => true) = true) (v : Value) : ofL (put l d v) = putF (ofL l) d v := by
  cases d with
  | none => rfl
  | some d => exact ofL_set (by simpa using h) v

theorem wanted_ofL {l : Env} (g : Option (Nat × Bool)) (h : wantedF g (ofL l) = true) : wantedN g l = true := by
  cases g with
  | none => rfl
  | some p =>
    obtain ⟨d, w⟩ := p
    simp only [wantedF, ofL, List.getD_eq_getElem?_getD] at h
    simp only [wantedN]
    cases hd : l[d]? with
    | none => rw [hd] at h; simp [undef] at h
    | some v =>
      rw [hd] at h
      simp only [Option.getD_some] at h
      cases v <;> first | exact h | cases h

theorem wanted_ofL' {l : Env} (g : Option (Nat × Bool)) (h : wantedF g (ofL l) = false) : wantedN g l = false := by
  cases g with
  | none => simp [wantedF] at h
  | some p =>
    obtain ⟨d, w⟩ := p
    simp only [wantedF, ofL, List.getD_eq_getElem?_getD] at h
    simp only [wantedN]
    cases hd : l[d]? with
    | none => rfl
    | some v =>
      rw [hd] at h
      simp only [Option.getD_some] at h
      cases v <;> first | exact h | rfl

theorem wanted_ofL'' {l : Env} (g : Option (Nat × Bool)) : wantedN g l = wantedF g (ofL l) := by
  cases h : wantedF g (ofL l) with
  | true => exact wanted_ofL g h
  | false => exact wanted_ofL' g h

theorem wpO_sound {C : Nat → Callee} : ∀ (ops : List NOper) (l : Env) (H : AHeap) (Q : FEnv → AHeap → Prop), dstOkO l.length ops = true → wpO C ops (ofL l) H Q →
    ∃ l' H', Q (ofL l') H' ∧ l'.length = l.length ∧ ∃ n, ∀ m, n ≤ m → runOps (C m) ops l H = some (l', H')
  | [], l, H, Q, _, h => ⟨l, H, h, rfl, 0, fun _ _ => rfl⟩
  | o :: r, l, H, Q, hd, h => by
    simp only [dstOkO, Bool.and_eq_true] at hd
    obtain ⟨hd1, hd2⟩ := hd
    have hlen : ∀ v, (put l o.dst v).length = l.length := fun v => put_length l o.dst v
    simp only [wpO] at h
    split at h
    · rename_i hw
      rw [← ofL_put hd1] at h
      obtain ⟨l', H', hq, hl, n, hn⟩ := wpO_sound r _ H Q (by rw [hlen]; exact hd2) h
      refine ⟨l', H', hq, by rw [hl, hlen], n, fun m hm => ?_⟩
      simp only [runOps, stepN, wanted_ofL' _ hw]
      exact hn m hm
    · rename_i hw
      rw [eop_sub] at h
      split at h
      · rename_i v H1 he
        rw [← ofL_put hd1] at h
        obtain ⟨l', H', hq, hl, n, hn⟩ := wpO_sound r _ H1 Q (by rw [hlen]; exact hd2) h
        refine ⟨l', H', hq, by rw [hl, hlen], n, fun m hm => ?_⟩
        simp only [runOps, stepN, wanted_ofL _ hw, he, if_true]
        exact hn m hm
      · rename_i f args H1 he
        obtain ⟨v, H2, h, n1, hn1⟩ := h
        rw [← ofL_put hd1] at h
        obtain ⟨l', H', hq, hl, n, hn⟩ := wpO_sound r _ H2 Q (by rw [hlen]; exact hd2) h
        refine ⟨l', H', hq, by rw [hl, hlen], max n1 n, fun m hm => ?_⟩
        simp only [runOps, stepN, wanted_ofL _ hw, he, if_true, hn1 m (by omega), Option.map_some]
        exact hn m (by omega)
      · exact h.elim

def ofSts (sts : List (Env × AHeap)) : List (FEnv × AHeap) := sts.map fun (l, H) => (ofL l, H)

theorem wpD_sound {C : Nat → Callee} : ∀ (ops : List NOper) (l : Env) (H : AHeap) (acc : List (Env × AHeap)) (Q : List (FEnv × AHeap) → FEnv → AHeap → Prop), dstOkO l.length ops = true → wpD C ops (ofL l) H (ofSts acc) Q →
    ∃ sts l' H', Q (ofSts sts) (ofL l') H' ∧ l'.length = l.length ∧ ∃ n, ∀ m, n ≤ m → runD (C m) ops l H acc = some (sts, l', H')
  | [], l, H, acc, Q, _, h => ⟨acc ++ [(l, H)], l, H, by simpa [ofSts, wpD] using h, rfl, 0, fun _ _ => rfl⟩
  | o :: r, l, H, acc, Q, hd, h => by
    simp only [dstOkO, Bool.and_eq_true] at hd
    obtain ⟨hd1, hd2⟩ := hd
    have hlen : ∀ v, (put l o.dst v).length = l.length := fun v => put_length l o.dst v
    have hacc : ofSts acc ++ [(ofL l, H)] = ofSts (acc ++ [(l, H)]) := by simp [ofSts]
    simp only [wpD] at h
    rw [hacc] at h
    split at h
    · rename_i hw
      rw [← ofL_put hd1] at h
      obtain ⟨sts, l', H', hq, hl, n, hn⟩ := wpD_sound r _ H _ Q (by rw [hlen]; exact hd2) h
      refine ⟨sts, l', H', hq, by rw [hl, hlen], n, fun m hm => ?_⟩
      simp only [runD, stepN, wanted_ofL' _ hw]
      exact hn m hm
    · rename_i hw
      rw [eop_sub] at h
      split at h
      · rename_i v H1 he
        rw [← ofL_put hd1] at h
        obtain ⟨sts, l', H', hq, hl, n, hn⟩ := wpD_sound r _ H1 _ Q (by rw [hlen]; exact hd2) h
        refine ⟨sts, l', H', hq, by rw [hl, hlen], n, fun m hm => ?_⟩
        simp only [runD, stepN, wanted_ofL _ hw, he, if_true]
        exact hn m hm
      · rename_i f args H1 he
        obtain ⟨v, H2, h, n1, hn1⟩ := h
        rw [← ofL_put hd1] at h
        obtain ⟨sts, l', H', hq, hl, n, hn⟩ := wpD_sound r _ H2 _ Q (by rw [hlen]; exact hd2) h
        refine ⟨sts, l', H', hq, by rw [hl, hlen], max n1 n, fun m hm => ?_⟩
        simp only [runD, stepN, wanted_ofL _ hw, he, if_true, hn1 m (by omega), Option.map_some]
        exact hn m (by omega)
      · exact h.elim

theorem ofSts_get (sts : List (Env × AHeap)) (i : Nat) : (ofSts sts)[i]? = (sts[i]?).map fun (l, H) => (ofL l, H) := by
  simp [ofSts]

theorem chkFs_sound {sts : List (Env × AHeap)} {o : NOper} {d : Nat} (ho : o.dst = some d) {l lf : Env} : ∀ (c : List Nat), chkFs (ofSts sts) o.op d (ofL lf) (ofL l) c →
    (c.all fun b => match sts[b]? with | some (_, H) => chkAt o l lf H | none => false) = true
  | [], _ => rfl
  | b :: c, h => by
    obtain ⟨h1, h2⟩ := h
    simp only [List.all_cons, Bool.and_eq_true]
    refine ⟨?_, chkFs_sound ho c h2⟩
    rw [ofSts_get] at h1
    cases hb : sts[b]? with
    | none => rw [hb] at h1; exact h1.elim
    | some p =>
      obtain ⟨l1, H⟩ := p
      rw [hb] at h1
      obtain ⟨H', he⟩ := h1
      rw [eop_sub] at he
      simp only [chkAt, ho, he]
      exact valEq_refl _

theorem chkF_sound {sts : List (Env × AHeap)} {lf : Env} : ∀ (os : List NOper) (cs : List (List Nat)) (r : Nat), chkF (ofSts sts) (ofL lf) os cs r → chkAll sts lf os cs r = true
  | [], cs, r, _ => by cases cs <;> rfl
  | o :: os, [], r, _ => rfl
  | o :: os, [] :: cs, r, h => by
    simp only [chkAll, List.isEmpty_nil, Bool.true_or, Bool.true_and]
    exact chkF_sound os cs (r + 1) h
  | o :: os, (b :: c) :: cs, r, h => by
    obtain ⟨h1, h2⟩ := h
    simp only [chkAll, Bool.and_eq_true, Bool.or_eq_true]
    refine ⟨.inr ?_, chkF_sound os cs (r + 1) h2⟩
    rw [ofSts_get] at h1
    cases hr : sts[r]? with
    | none => rw [hr] at h1; exact h1.elim
    | some p =>
      obtain ⟨l1, H1⟩ := p
      rw [hr] at h1
      simp only [chkOne, hr, Bool.or_eq_true]
      cases hw : wantedN o.guard l1 with
      | false => exact .inl rfl
      | true =>
        right
        rw [wanted_ofL''] at hw
        have h1 := h1 hw
        cases hd : o.dst with
        | none => rw [hd] at h1; exact h1.elim
        | some d =>
          rw [hd] at h1
          exact chkFs_sound hd (b :: c) h1

theorem runOps_asg {C : Callee} : ∀ (ops : List NOper) (l : Env) (H : AHeap) {l' : Env} {H' : AHeap}, runOps C ops l H = some (l', H') → l'.length = l.length ∧ ∀ i, i ∉ asgO ops → ofL l' i = ofL l i
  | [], l, H, _, _, h => by cases h; exact ⟨rfl, fun _ _ => rfl⟩
  | o :: r, l, H, l', H', h => by
    simp only [runOps] at h
    split at h
    · rename_i T1 H1 hs
      obtain ⟨v, rfl⟩ := stepN_put hs
      obtain ⟨h1, h2⟩ := runOps_asg r _ _ h
      refine ⟨by rw [h1, put_length], fun i hi => ?_⟩
      simp only [asgO, List.mem_append, not_or] at hi
      rw [h2 i hi.2]
      simp only [ofL, List.getD_eq_getElem?_getD]
      rw [put_other]
      intro e
      rw [e] at hi
      simp at hi
    · cases h

theorem runD_asg {C : Callee} : ∀ (ops : List NOper) (l : Env) (H : AHeap) (acc : List (Env × AHeap)) {sts : List (Env × AHeap)} {l' : Env} {H' : AHeap}, runD C ops l H acc = some (sts, l', H') → l'.length = l.length ∧ ∀ i, i ∉ asgO ops → ofL l' i = ofL l i
  | [], l, H, acc, _, _, _, h => by cases h; exact ⟨rfl, fun _ _ => rfl⟩
  | o :: r, l, H, acc, sts, l', H', h => by
    simp only [runD] at h
    split at h
    · rename_i T1 H1 hs
      obtain ⟨v, rfl⟩ := stepN_put hs
      obtain ⟨h1, h2⟩ := runD_asg r _ _ _ h
      refine ⟨by rw [h1, put_length], fun i hi => ?_⟩
      simp only [asgO, List.mem_append, not_or] at hi
      rw [h2 i hi.2]
      simp only [ofL, List.getD_eq_getElem?_getD]
      rw [put_other]
      intro e
      rw [e] at hi
      simp at hi
    · cases h

theorem loopN_asg {body : Env → AHeap → Out} {A : List Nat} (hb : ∀ l H x l' H', body l H = some (x, l', H') → l'.length = l.length ∧ ∀ i, i ∉ A → ofL l' i = ofL l i) :
    ∀ (n : Nat) (l : Env) (H : AHeap) {x : NX} {l' : Env} {H' : AHeap}, loopN body n l H = some (x, l', H') → l'.length = l.length ∧ ∀ i, i ∉ A → ofL l' i = ofL l i
  | 0, l, H, x, l', H', h => by cases h
  | n + 1, l, H, x, l', H', h => by
    simp only [loopN] at h
    split at h
    · rename_i T1 H1 hs
      obtain ⟨h1, h2⟩ := hb _ _ _ _ _ hs
      obtain ⟨h3, h4⟩ := loopN_asg hb n _ _ h
      exact ⟨h3.trans h1, fun i hi => (h4 i hi).trans (h2 i hi)⟩
    · exact hb _ _ _ _ _ h

theorem execN_asg {C : Callee} {n : Nat} : ∀ (c : NCode) (l : Env) (H : AHeap) (x : NX) (l' : Env) (H' : AHeap), execN C n c l H = some (x, l', H') → l'.length = l.length ∧ ∀ i, i ∉ asg c → ofL l' i = ofL l i
  | .skip, l, H, x, l', H', h => by cases h; exact ⟨rfl, fun _ _ => rfl⟩
  | .ret, l, H, x, l', H', h => by cases h; exact ⟨rfl, fun _ _ => rfl⟩
  | .exit _, l, H, x, l', H', h => by cases h; exact ⟨rfl, fun _ _ => rfl⟩
  | .stuck, l, H, x, l', H', h => by cases h
  | .rangeFunc g ps ag body k, l, H, x, l', H', h => by
    simp only [execN] at h
    split at h
    case h_2 => cases h
    split at h
    case h_2 => cases h
    split at h
    case h_2 => cases h
    split at h
    · cases h
    · cases h; exact ⟨rfl, fun _ _ => rfl⟩
  | .region ops, l, H, x, l', H', h => by
    simp only [execN] at h
    split at h
    · rename_i he; cases h; exact runOps_asg ops l H he
    · cases h
  | .regionD ops chk, l, H, x, l', H', h => by
    simp only [execN] at h
    split at h
    · rename_i he
      split at h
      · cases h; exact runD_asg ops l H [] he
      · cases h
    · cases h
  | .seq a b, l, H, x, l', H', h => by
    simp only [execN] at h
    split at h
    · rename_i T1 H1 he
      obtain ⟨h1, h2⟩ := execN_asg a l H _ _ _ he
      obtain ⟨h3, h4⟩ := execN_asg b _ _ _ _ _ h
      refine ⟨h3.trans h1, fun i hi => ?_⟩
      simp only [asg, List.mem_append, not_or] at hi
      exact (h4 i hi.2).trans (h2 i hi.1)
    · obtain ⟨h1, h2⟩ := execN_asg a l H _ _ _ h
      refine ⟨h1, fun i hi => ?_⟩
      simp only [asg, List.mem_append, not_or] at hi
      exact h2 i hi.1
  | .cond c a b, l, H, x, l', H', h => by
    simp only [execN] at h
    split at h
    · obtain ⟨h1, h2⟩ := execN_asg a l H _ _ _ h
      refine ⟨h1, fun i hi => ?_⟩
      simp only [asg, List.mem_append, not_or] at hi
      exact h2 i hi.1
    · obtain ⟨h1, h2⟩ := execN_asg b l H _ _ _ h
      refine ⟨h1, fun i hi => ?_⟩
      simp only [asg, List.mem_append, not_or] at hi
      exact h2 i hi.2
    · cases h
  | .block id a, l, H, x, l', H', h => by
    simp only [execN] at h
    split at h
    · rename_i i T1 H1 he
      have := execN_asg a l H _ _ _ he
      split at h <;> (cases h; exact this)
    · exact execN_asg a l H _ _ _ h
  | .loop a, l, H, x, l', H', h => by
    simp only [execN] at h
    exact loopN_asg (fun l H x l' H' hb => execN_asg a l H x l' H' hb) n l H h

theorem wp_sound {C : Nat → Callee} : ∀ (c : NCode) (l : Env) (H : AHeap) (Q : Post), dstOk l.length c = true → wp C c (ofL l) H Q →
    ∃ x l' H', Q x (ofL l') H' ∧ l'.length = l.length ∧ ∃ n, ∀ m r, n ≤ m → n ≤ r → execN (C m) r c l H = some (x, l', H')
  | .skip, l, H, Q, _, h => ⟨_, l, H, h, rfl, 0, fun _ _ _ _ => rfl⟩
  | .ret, l, H, Q, _, h => ⟨_, l, H, h, rfl, 0, fun _ _ _ _ => rfl⟩
  | .exit _, l, H, Q, _, h => ⟨_, l, H, h, rfl, 0, fun _ _ _ _ => rfl⟩
  | .stuck, _, _, _, _, h => h.elim
  | .rangeFunc g ps ag body k, l, H, Q, hd, h => by
    have h := h l rfl (of_decide_eq_true hd)
    rw [evF_ofL] at h
    unfold rangeK at h
    split at h
    case h_2 => exact h.elim
    rename_i f fs cs hev
    obtain ⟨v, H2, hq, n, hn⟩ := h
    split at hq
    case h_2 => exact hq.elim
    rename_i st pend _ _ _ _ hget
    refine ⟨_, l, _, hq.2, rfl, n, fun m r hm _ => ?_⟩
    simp only [execN, hev, hn m hm, hget, hq.1, Bool.false_eq_true, if_false]
  | .region ops, l, H, Q, hd, h => by
    obtain ⟨l', H', hq, hl, n, hn⟩ := wpO_sound ops l H _ hd h
    exact ⟨_, l', H', hq, hl, n, fun m r hm _ => by simp only [execN, hn m hm]⟩
  | .regionD ops chk, l, H, Q, hd, h => by
    obtain ⟨sts, l', H', ⟨hc, hq⟩, hl, n, hn⟩ := wpD_sound ops l H [] _ hd h
    exact ⟨_, l', H', hq, hl, n, fun m r hm _ => by simp only [execN, hn m hm, chkF_sound _ _ _ hc, if_true]⟩
  | .seq a b, l, H, Q, hd, h => by
    simp only [dstOk, Bool.and_eq_true] at hd
    obtain ⟨x, l1, H1, hq, hl, n, hn⟩ := wp_sound a l H _ hd.1 h
    cases x with
    | normal =>
      obtain ⟨x, l2, H2, hq2, hl2, n2, hn2⟩ := wp_sound b l1 H1 Q (by rw [hl]; exact hd.2) hq
      exact ⟨x, l2, H2, hq2, hl2.trans hl, max n n2, fun m r hm hr => by simp only [execN, hn m r (by omega) (by omega), hn2 m r (by omega) (by omega)]⟩
    | exit i => exact ⟨_, l1, H1, hq, hl, n, fun m r hm hr => by simp only [execN, hn m r hm hr]⟩
    | ret => exact ⟨_, l1, H1, hq, hl, n, fun m r hm hr => by simp only [execN, hn m r hm hr]⟩
  | .cond c a b, l, H, Q, hd, h => by
    simp only [dstOk, Bool.and_eq_true] at hd
    simp only [wp, evF_ofL, condK] at h
    split at h
    · rename_i hc
      obtain ⟨x, l1, H1, hq, hl, n, hn⟩ := wp_sound a l H _ hd.1 h
      exact ⟨x, l1, H1, hq, hl, n, fun m r hm hr => by simp only [execN, hc, hn m r hm hr]⟩
    · rename_i hc
      obtain ⟨x, l1, H1, hq, hl, n, hn⟩ := wp_sound b l H _ hd.2 h
      exact ⟨x, l1, H1, hq, hl, n, fun m r hm hr => by simp only [execN, hc, hn m r hm hr]⟩
    · exact h.elim
  | .block id a, l, H, Q, hd, h => by
    obtain ⟨x, l1, H1, hq, hl, n, hn⟩ := wp_sound a l H _ hd h
    cases x with
    | normal => exact ⟨_, l1, H1, hq, hl, n, fun m r hm hr => by simp only [execN, hn m r hm hr]⟩
    | ret => exact ⟨_, l1, H1, hq, hl, n, fun m r hm hr => by simp only [execN, hn m r hm hr]⟩
    | exit i =>
      simp only [blockK] at hq
      by_cases e : i = id
      · rw [if_pos e] at hq
        exact ⟨_, l1, H1, hq, hl, n, fun m r hm hr => by simp only [execN, hn m r hm hr, if_pos e]⟩
      · rw [if_neg e] at hq
        exact ⟨_, l1, H1, hq, hl, n, fun m r hm hr => by simp only [execN, hn m r hm hr, if_neg e]⟩
  | .loop a, l, H, Q, hd, h => by
    obtain ⟨I, ⟨k, h0⟩, hs⟩ := h
    have key : ∀ (k : Nat) (l1 : Env) (H1 : AHeap), l1.length = l.length → (∀ i, i ∉ asg a → ofL l1 i = ofL l i) → I k (ofL l1) H1 →
        ∃ x l' H', Q x (ofL l') H' ∧ l'.length = l.length ∧ ∃ n, ∀ m r s, n ≤ m → n ≤ r → n ≤ s → loopN (execN (C m) r a) s l1 H1 = some (x, l', H') := by
      intro k
      induction k using Nat.strongRecOn with
      | ind k ih =>
        intro l1 H1 hl hag hI
        obtain ⟨x, l2, H2, hq, hl2, n, hn⟩ := wp_sound a l1 H1 _ (by rw [hl]; exact hd) (hs k _ _ hag hI)
        cases x with
        | normal =>
          obtain ⟨k', hk', hI'⟩ := hq
          have hag2 : ∀ i, i ∉ asg a → ofL l2 i = ofL l i := fun i hi => ((execN_asg a l1 H1 _ _ _ (hn n n (Nat.le_refl _) (Nat.le_refl _))).2 i hi).trans (hag i hi)
          obtain ⟨x, l3, H3, hq3, hl3, n3, hn3⟩ := ih k' hk' l2 H2 (hl2.trans hl) hag2 hI'
          refine ⟨x, l3, H3, hq3, hl3, max n n3 + 1, fun m r s hm hr hs => ?_⟩
          obtain ⟨s, rfl⟩ : ∃ t, s = t + 1 := ⟨s - 1, by omega⟩
          simp only [loopN, hn m r (by omega) (by omega), hn3 m r s (by omega) (by omega) (by omega)]
        | ret =>
          refine ⟨_, l2, H2, hq, hl2.trans hl, n + 1, fun m r s hm hr hs => ?_⟩
          obtain ⟨s, rfl⟩ : ∃ t, s = t + 1 := ⟨s - 1, by omega⟩
          simp only [loopN, hn m r (by omega) (by omega)]
        | exit i =>
          refine ⟨_, l2, H2, hq, hl2.trans hl, n + 1, fun m r s hm hr hs => ?_⟩
          obtain ⟨s, rfl⟩ : ∃ t, s = t + 1 := ⟨s - 1, by omega⟩
          simp only [loopN, hn m r (by omega) (by omega)]
    obtain ⟨x, l', H', hq, hl, n, hn⟩ := key k l H rfl (fun _ _ => rfl) h0
    exact ⟨x, l', H', hq, hl, n, fun m r hm hr => by simp only [execN]; exact hn m r r hm hr hr⟩

/-! ### functions -/
def resF (T : FEnv) (H : AHeap) : NRes → Option Value
  | .tmp t => some (T t)
  | .cell t n => match T t with
    | .pointer (some p) => match n with
      | none => (H.row p.block p.off 1).bind fun cs => cs[0]?
      | some k => (H.row p.block p.off k).map fun cs => .agg ⟨cs⟩
    | _ => none
def resultsF (T : FEnv) (H : AHeap) : List NRes → Option (List Value)
  | [] => some []
  | r :: rs => (resF T H r).bind fun v => (resultsF T H rs).map (v :: ·)

theorem resultsF_ofL (l : Env) (H : AHeap) : ∀ rs, resultsF (ofL l) H rs = resultsN l H rs
  | [] => rfl
  | r :: rs => by
    simp only [resultsF, resultsN, resultsF_ofL l H rs]
    have : resF (ofL l) H r = resN l H r := by cases r <;> rfl
    rw [this]

def retK (rs : List NRes) (R : Value → AHeap → Prop) : Post := fun x T H => match x with
  | .exit _ => False
  | _ => ∃ vs, resultsF T H rs = some vs ∧ R (resultV vs) H

def entF (args : List Value) : FEnv := fun i => args.getD i undef
theorem ofL_enter (g : NFunc) (args : List Value) : ofL (enterN g args) = entF args := by
  funext i
  simp only [ofL, enterN, entF, List.getD_eq_getElem?_getD]
  by_cases h : i < args.length
  · rw [List.getElem?_append_left h]
  · rw [List.getElem?_append_right (by omega), List.getElem?_eq_none (l := args) (by omega)]
    simp only [List.getElem?_replicate]
    split <;> rfl

def Opens (C : Nat → Callee) (f : Nat) (g : NFunc) : Prop := ∀ n args H, C (n + 1) (.fn f) args H = finishN g (execN (C n) n g.body (enterN g args) H)

theorem wpF_of {C : Nat → Callee} {f : Nat} {g : NFunc} (ho : Opens C f g) {args : List Value} (ha : decide (args.length ≤ g.ntmps) = true) (hd : dstOk g.ntmps g.body = true) {H : AHeap} {R : Value → AHeap → Prop}
    (h : wp C g.body (entF args) H (retK g.results R)) : wpF C f args H R := by
  have ha := of_decide_eq_true ha
  rw [← ofL_enter g] at h
  have hlen : (enterN g args).length = g.ntmps := by simp only [enterN, List.length_append, List.length_replicate]; omega
  obtain ⟨x, l', H', hq, _, n, hn⟩ := wp_sound g.body (enterN g args) H _ (by rw [hlen]; exact hd) h
  cases x with
  | exit i => exact hq.elim
  | normal =>
    obtain ⟨vs, h1, h2⟩ := hq
    rw [resultsF_ofL] at h1
    refine ⟨_, H', h2, n + 1, fun m hm => ?_⟩
    obtain ⟨m, rfl⟩ : ∃ t, m = t + 1 := ⟨m - 1, by omega⟩
    rw [ho, hn m m (by omega) (by omega)]
    simp only [finishN, h1, Option.map_some]
  | ret =>
    obtain ⟨vs, h1, h2⟩ := hq
    rw [resultsF_ofL] at h1
    refine ⟨_, H', h2, n + 1, fun m hm => ?_⟩
    obtain ⟨m, rfl⟩ : ∃ t, m = t + 1 := ⟨m - 1, by omega⟩
    rw [ho, hn m m (by omega) (by omega)]
    simp only [finishN, h1, Option.map_some]

/-! ### rounds -/
end Go.E
