/-
  THE EVALUATOR WITH CHOICES, PART M: weakest preconditions over the evaluator's code; calls may have several outcomes.
-/
import Derived.Test.YtlkgacbholklkaaEwL
set_option linter.unusedSimpArgs false
set_option linter.unusedVariables false
namespace Go.E
open Go
abbrev FEnv := Nat → Value
def upd (T : FEnv) (d : Nat) (v : Value) : FEnv := fun i => bif Nat.beq d i then v else T i
def putF (T : FEnv) (d : Option Nat) (v : Value) : FEnv :=
  match d with
  | some d => upd T d v
  | none => T
def ofL (l : Env) : FEnv := fun i => l.getD i undef

def NOpd.sub (T : FEnv) : NOpd → NOpd
  | .t i => .c (T i)
  | .c v => .c v
  | .g i => .g i

def NOpd.evF (T : FEnv) : NOpd → Value
  | .t i => T i
  | .c v => v
  | .g i => .pointer (some ⟨i, 0, none⟩)

def subOpt (T : FEnv) : Option NOpd → Option NOpd
  | none => none
  | some x => some (x.sub T)
def subs (T : FEnv) : List NOpd → List NOpd
  | [] => []
  | x :: r => x.sub T :: subs T r
def subPs (T : FEnv) : List (Nat × Nat × NOpd) → List (Nat × Nat × NOpd)
  | [] => []
  | (o, s, x) :: r => (o, s, x.sub T) :: subPs T r

def NOp.sub (T : FEnv) : NOp → NOp
  | .mov x => .mov (x.sub T)
  | .pick a b c => .pick (a.sub T) (b.sub T) (c.sub T)
  | .alloc a b => .alloc a b
  | .box a x => .box a (x.sub T)
  | .build z ps => .build z (subPs T ps)
  | .bslice a b z ps => .bslice a b z (subPs T ps)
  | .load1 x => .load1 (x.sub T)
  | .loadN n x => .loadN n (x.sub T)
  | .store n a x => .store n (a.sub T) (x.sub T)
  | .nilchk x => .nilchk (x.sub T)
  | .bin op e x y => .bin op e (x.sub T) (y.sub T)
  | .un op x => .un op (x.sub T)
  | .convInt k x => .convInt k (x.sub T)
  | .convStr x => .convStr (x.sub T)
  | .i2s x => .i2s (x.sub T)
  | .b2s x => .b2s (x.sub T)
  | .s2b x => .s2b (x.sub T)
  | .b2b x => .b2b (x.sub T)
  | .mkfunc f a b => .mkfunc f (subs T a) (subs T b)
  | .mkmap => .mkmap
  | .mkslice a b z l c => .mkslice a b z (l.sub T) (c.sub T)
  | .slice es x lo hi mx => .slice es (x.sub T) (subOpt T lo) (subOpt T hi) (subOpt T mx)
  | .sliceStr x lo hi => .sliceStr (x.sub T) (subOpt T lo) (subOpt T hi)
  | .sliceArr n es x lo hi mx => .sliceArr n es (x.sub T) (subOpt T lo) (subOpt T hi) (subOpt T mx)
  | .faddr k x => .faddr k (x.sub T)
  | .field s k x => .field s k (x.sub T)
  | .iaddr es x i => .iaddr es (x.sub T) (i.sub T)
  | .iaddrArr n es x i => .iaddrArr n es (x.sub T) (i.sub T)
  | .idxStr x i => .idxStr (x.sub T) (i.sub T)
  | .idxArr n s es x i => .idxArr n s es (x.sub T) (i.sub T)
  | .lookup k z m x ok => .lookup k z (m.sub T) (x.sub T) ok
  | .mapupd k m x v => .mapupd k (m.sub T) (x.sub T) (v.sub T)
  | .extract x i => .extract (x.sub T) i
  | .append a b s x => .append a b (s.sub T) (x.sub T)
  | .appendZ a z s x => .appendZ a z (s.sub T) (x.sub T)
  | .copy es d s => .copy es (d.sub T) (s.sub T)
  | .lenC n => .lenC n
  | .len k x => .len k (x.sub T)
  | .minmax b xs => .minmax b (subs T xs)
  | .clear es z x => .clear es z (x.sub T)
  | .clearM x => .clearM (x.sub T)
  | .delete k m x => .delete k (m.sub T) (x.sub T)
  | .rangeM x => .rangeM (x.sub T)
  | .nextM x => .nextM (x.sub T)
  | .rangeS x => .rangeS (x.sub T)
  | .nextS x => .nextS (x.sub T)
  | .entryM x => .entryM (x.sub T)
  | .s2ap n x => .s2ap n (x.sub T)
  | .ixByteS x y => .ixByteS (x.sub T) (y.sub T)
  | .extB c x y => .extB c (x.sub T) (y.sub T)
  | .call f xs => .call (f.sub T) (subs T xs)

theorem ev_sub (l : Env) (x : NOpd) : (x.sub (ofL l)).ev [] = x.ev l := by cases x <;> rfl
theorem evF_ofL (l : Env) (x : NOpd) : x.evF (ofL l) = x.ev l := by cases x <;> rfl
theorem subOpt_ev (l : Env) (x : Option NOpd) : (subOpt (ofL l) x).map (·.ev []) = x.map (·.ev l) := by
  cases x with
  | none => rfl
  | some x => simp [subOpt, ev_sub]
theorem subs_ev (l : Env) : ∀ (xs : List NOpd), (subs (ofL l) xs).map (·.ev []) = xs.map (·.ev l)
  | [] => rfl
  | x :: r => by simp [subs, ev_sub, subs_ev l r]
theorem subPs_ev (l : Env) : ∀ (ps : List (Nat × Nat × NOpd)), (subPs (ofL l) ps).map (fun (o, s, x) => (o, s, x.ev [])) = ps.map (fun (o, s, x) => (o, s, x.ev l))
  | [] => rfl
  | (o, s, x) :: r => by
    have := subPs_ev l r
    simp only [subPs, List.map_cons, ev_sub, this]

theorem eop_sub (o : NOp) (l : Env) (H : AHeap) : eop (o.sub (ofL l)) [] H = eop o l H := by
  cases o <;> simp only [NOp.sub, eop, ev_sub, subOpt_ev, subs_ev, subPs_ev]

theorem ofL_set {l : Env} {d : Nat} (h : d < l.length) (v : Value) : ofL (l.set d v) = upd (ofL l) d v := by
  funext i
  simp only [ofL, upd, List.getD_eq_getElem?_getD]
  by_cases e : d = i
  · subst e
    have : Nat.beq d d = true := Nat.beq_eq ▸ rfl
    simp [h, this]
  · have : Nat.beq d i = false := by
      cases hb : Nat.beq d i with
      | false => rfl
      | true => exact absurd (Nat.eq_of_beq_eq_true hb) e
    simp [List.getElem?_set_ne e, this]

def wantedF (g : Option (Nat × Bool)) (T : FEnv) : Bool :=
  match g with
  | none => true
  | some (d, want) => match T d with
    | .bool b => b == want
    | _ => false

/-! ### calls -/
structure Callees where
  run : Fid → List Value → AHeap → (Value → AHeap → Prop) → Prop
  mono : ∀ {f : Fid} {args : List Value} {H : AHeap} {R R' : Value → AHeap → Prop}, run f args H R → (∀ v H', R v H' → R' v H') → run f args H R'
  feas : ∀ {f : Fid} {args : List Value} {H : AHeap} {R : Value → AHeap → Prop}, run f args H R → ∃ v H', R v H'

def Callees.le (C C' : Callees) : Prop := ∀ f args H R, C.run f args H R → C'.run f args H R
theorem Callees.le_refl (C : Callees) : C.le C := fun _ _ _ _ h => h

def wpC (C : Callees) (f : Fid) (args : List Value) (H : AHeap) (R : Value → AHeap → Prop) : Prop := C.run f args H R
def wpF (C : Callees) (f : Nat) (args : List Value) (H : AHeap) (R : Value → AHeap → Prop) : Prop := wpC C (.fn f) args H R

theorem wpC_mono {C : Callees} {f : Fid} {args : List Value} {H : AHeap} {R R' : Value → AHeap → Prop} (h : wpC C f args H R) (k : ∀ v H', R v H' → R' v H') : wpC C f args H R' := C.mono h k
theorem wpF_mono {C : Callees} {f : Nat} {args : List Value} {H : AHeap} {R R' : Value → AHeap → Prop} (h : wpF C f args H R) (k : ∀ v H', R v H' → R' v H') : wpF C f args H R' := C.mono h k

def rangeK (C : Callees) (gv : Value) (ps : List Nat) (asg body : Code) (l : Env) (H : AHeap) (Q : NX → AHeap → Prop) : Prop :=
  match gv with
  | .func (.func f) ⟨fs⟩ ⟨cs⟩ => wpC C (.fn f) (fs ++ [.func (.yield H.next) ⟨[]⟩ ⟨[]⟩] ++ cs) (H.add (.loop .ready none l ps asg body)) fun _ H2 => match H2.get H.next with
    | .loop st pend _ _ _ _ => isBusy st = false ∧ Q (jmpX pend) (H2.set H.next .dead)
    | _ => False
  | _ => False

def pickL (es : List MapEntry) (since : Nat) (seen : List Nat) : List (Option MapEntry) :=
  (if ((es.filter fun e => !seen.contains e.born).filter fun e => decide (e.born < since)).isEmpty then [none] else []) ++
    (((es.filter fun e => !seen.contains e.born).filter fun e => decide (e.born < since)) ++ ((es.filter fun e => !seen.contains e.born).filter fun e => decide (e.born ≥ since))).map some

def pickV (v : Value) (H : AHeap) (K : Value → AHeap → Prop) : Prop :=
  match v with
  | .pointer (some p) => p.off = 0 ∧ match H.get p.block with
    | .iter (some m) since seen last => match H.get m with
      | .map es clock => (!seen.isEmpty && !es.isEmpty && es.all (·.born ≥ last)) = false ∧ ∀ c ∈ pickL es since seen, match c with
        | none => K (.tuple #[.bool false]) H
        | some e => closedV e.key = true ∧ K (.tuple #[.bool true, e.key, e.val]) (H.set p.block (.iter (some m) since (seen ++ [e.born]) clock))
      | _ => False
    | _ => False
  | _ => False

def pickW (o : NOp) (H : AHeap) (K : Value → AHeap → Prop) : Prop :=
  match o with
  | .nextM (.c v) => pickV v H K
  | _ => False

def resW (C : Callees) (o : NOp) (H : AHeap) (K : Value → AHeap → Prop) : Prop :=
  match eop o [] H with
  | some (.val v H') => K v H'
  | some (.call f args H') => wpC C f args H' K
  | none => pickW o H K

def wpO (C : Callees) : List NOper → FEnv → AHeap → (FEnv → AHeap → Prop) → Prop
  | [], T, H, Q => Q T H
  | o :: r, T, H, Q => match wantedF o.guard T with
    | false => wpO C r (putF T o.dst undef) H Q
    | true => resW C (o.op.sub T) H fun v H2 => wpO C r (putF T o.dst v) H2 Q

def wpD (C : Callees) : List NOper → FEnv → AHeap → List (FEnv × AHeap) → (List (FEnv × AHeap) → FEnv → AHeap → Prop) → Prop
  | [], T, H, acc, Q => Q (acc ++ [(T, H)]) T H
  | o :: r, T, H, acc, Q => match wantedF o.guard T with
    | false => wpD C r (putF T o.dst undef) H (acc ++ [(T, H)]) Q
    | true => resW C (o.op.sub T) H fun v H2 => wpD C r (putF T o.dst v) H2 (acc ++ [(T, H)]) Q

def chkF1 (o : NOp) (d : Nat) (Tf : FEnv) (T : FEnv) (H : AHeap) : Prop := ∃ H', eop (o.sub T) [] H = some (.val (Tf d) H')
def chkFs (sts : List (FEnv × AHeap)) (o : NOp) (d : Nat) (Tf : FEnv) (T : FEnv) : List Nat → Prop
  | [] => True
  | b :: c => (match sts[b]? with | some (_, H) => chkF1 o d Tf T H | none => False) ∧ chkFs sts o d Tf T c
def chkF (sts : List (FEnv × AHeap)) (Tf : FEnv) : List NOper → List (List Nat) → Nat → Prop
  | o :: os, [] :: cs, r => chkF sts Tf os cs (r + 1)
  | o :: os, (b :: c) :: cs, r => (match sts[r]? with
      | some (T, _) => wantedF o.guard T = true → match o.dst with
        | some d => chkFs sts o.op d Tf T (b :: c)
        | none => False
      | none => False) ∧ chkF sts Tf os cs (r + 1)
  | _, _, _ => True

def asgO : List NOper → List Nat
  | [] => []
  | o :: r => (match o.dst with | some d => [d] | none => []) ++ asgO r

def asg : NCode → List Nat
  | .region ops => asgO ops
  | .regionD ops _ => asgO ops
  | .seq a b => asg a ++ asg b
  | .cond _ a b => asg a ++ asg b
  | .block _ a => asg a
  | .loop a => asg a
  | _ => []

def condK (v : Value) (A B : Prop) : Prop :=
  match v with
  | .bool true => A
  | .bool false => B
  | _ => False

abbrev Post := NX → FEnv → AHeap → Prop

def seqK (W : FEnv → AHeap → Post → Prop) (Q : Post) : Post := fun x T H => match x with
  | .normal => W T H Q
  | x => Q x T H
def blockK (id : Nat) (Q : Post) : Post := fun x T H => match x with
  | .exit i => if i = id then Q .normal T H else Q (.exit i) T H
  | x => Q x T H
def iterK (I : Nat → FEnv → AHeap → Prop) (k : Nat) (Q : Post) : Post := fun x T H => match x with
  | .normal => ∃ k', k' < k ∧ I k' T H
  | x => Q x T H
def dK (ops : List NOper) (chk : List (List Nat)) (Q : Post) : List (FEnv × AHeap) → FEnv → AHeap → Prop :=
  fun sts T H => chkF sts T ops chk 0 ∧ Q .normal T H

def wp (C : Callees) : NCode → FEnv → AHeap → Post → Prop
  | .skip, T, H, Q => Q .normal T H
  | .region ops, T, H, Q => wpO C ops T H (Q .normal)
  | .regionD ops chk, T, H, Q => wpD C ops T H [] (dK ops chk Q)
  | .seq a b, T, H, Q => wp C a T H (seqK (fun T H Q => wp C b T H Q) Q)
  | .cond c a b, T, H, Q => condK (c.evF T) (wp C a T H Q) (wp C b T H Q)
  | .block id a, T, H, Q => wp C a T H (blockK id Q)
  | .loop a, T, H, Q => ∃ I : Nat → FEnv → AHeap → Prop, (∃ k, I k T H) ∧ ∀ k T' H', (∀ i, i ∉ asg a → T' i = T i) → I k T' H' → wp C a T' H' (iterK I k Q)
  | .exit id, T, H, Q => Q (.exit id) T H
  | .ret, T, H, Q => Q .ret T H
  | .rangeFunc g ps asg body k, T, H, Q => ∀ l, ofL l = T → k = l.length → rangeK C (g.evF T) ps asg body l H fun x H2 => Q x T H2
  | .stuck, _, _, _ => False

theorem ofL_put {l : Env} {d : Option Nat} (h : (match d with | some d => decide (d < l.length) | none => true) = true) (v : Value) : ofL (put l d v) = putF (ofL l) d v := by
  cases d with
  | none => rfl
  | some d => exact ofL_set (by simpa using h) v

theorem wanted_ofL {l : Env} (g : Option (Nat × Bool)) (h : wantedF g (ofL l) = true) : wantedN g l = true := by
  cases g with
  | none => rfl
  | some p =>
    obtain ⟨d, w⟩ := p
    simp only [wantedF, ofL, List.getD_eq_getElem?_getD] at h
    simp only [wantedN]
    cases hd : l[d]? with
    | none => rw [hd] at h; simp [undef] at h
    | some v =>
      rw [hd] at h
      simp only [Option.getD_some] at h
      cases v <;> first | exact h | cases h

theorem wanted_ofL' {l : Env} (g : Option (Nat × Bool)) (h : wantedF g (ofL l) = false) : wantedN g l = false := by
  cases g with
  | none => simp [wantedF] at h
  | some p =>
    obtain ⟨d, w⟩ := p
    simp only [wantedF, ofL, List.getD_eq_getElem?_getD] at h
    simp only [wantedN]
    cases hd : l[d]? with
    | none => rfl
    | some v =>
      rw [hd] at h
      simp only [Option.getD_some] at h
      cases v <;> first | exact h | rfl

theorem wanted_ofL'' {l : Env} (g : Option (Nat × Bool)) : wantedN g l = wantedF g (ofL l) := by
  cases h : wantedF g (ofL l) with
  | true => exact wanted_ofL g h
  | false => exact wanted_ofL' g h

def ofSts (sts : List (Env × AHeap)) : List (FEnv × AHeap) := sts.map fun (l, H) => (ofL l, H)

theorem ofSts_get (sts : List (Env × AHeap)) (i : Nat) : (ofSts sts)[i]? = (sts[i]?).map fun (l, H) => (ofL l, H) := by
  simp [ofSts]


/-! ### what follows from more: more calls, a weaker end -/
theorem pickV_mono {v : Value} {H : AHeap} {K K' : Value → AHeap → Prop} (h : pickV v H K) (k : ∀ v H', K v H' → K' v H') : pickV v H K' := by
  unfold pickV at h ⊢
  split at h
  case h_2 => exact h.elim
  obtain ⟨h0, h⟩ := h
  refine ⟨h0, ?_⟩
  split at h
  case h_2 => exact h.elim
  split at h
  case h_2 => exact h.elim
  obtain ⟨h1, h⟩ := h
  refine ⟨h1, fun c hc => ?_⟩
  have h2 := h c hc
  cases c with
  | none => exact k _ _ h2
  | some e => exact ⟨h2.1, k _ _ h2.2⟩
theorem pickW_mono {o : NOp} {H : AHeap} {K K' : Value → AHeap → Prop} (h : pickW o H K) (k : ∀ v H', K v H' → K' v H') : pickW o H K' := by
  unfold pickW at h ⊢
  split at h
  · exact pickV_mono h k
  · exact h.elim
theorem resW_mono {C C' : Callees} (hC : C.le C') {o : NOp} {H : AHeap} {K K' : Value → AHeap → Prop} (h : resW C o H K) (k : ∀ v H', K v H' → K' v H') : resW C' o H K' := by
  unfold resW at h ⊢
  split at h
  · exact k _ _ h
  · exact C'.mono (hC _ _ _ _ h) k
  · exact pickW_mono h k
theorem pickL_ne (es : List MapEntry) (since : Nat) (seen : List Nat) : ∃ c, c ∈ pickL es since seen := by
  unfold pickL
  cases h : (es.filter fun e => !seen.contains e.born).filter fun e => decide (e.born < since) with
  | nil => exact ⟨none, by simp⟩
  | cons e l => exact ⟨some e, by simp⟩
theorem pickV_feas {v : Value} {H : AHeap} {K : Value → AHeap → Prop} (h : pickV v H K) : ∃ v H', K v H' := by
  unfold pickV at h
  split at h
  case h_2 => exact h.elim
  obtain ⟨h0, h⟩ := h
  split at h
  case h_2 => exact h.elim
  split at h
  case h_2 => exact h.elim
  rename_i es clock hm
  obtain ⟨c, hc⟩ := pickL_ne es _ _
  have h2 := h.2 c hc
  cases c with
  | none => exact ⟨_, _, h2⟩
  | some e => exact ⟨_, _, h2.2⟩
theorem pickW_feas {o : NOp} {H : AHeap} {K : Value → AHeap → Prop} (h : pickW o H K) : ∃ v H', K v H' := by
  unfold pickW at h
  split at h
  · exact pickV_feas h
  · exact h.elim
theorem resW_feas {C : Callees} {o : NOp} {H : AHeap} {K : Value → AHeap → Prop} (h : resW C o H K) : ∃ v H', K v H' := by
  unfold resW at h
  split at h
  · exact ⟨_, _, h⟩
  · exact C.feas h
  · exact pickW_feas h
theorem wpO_monoC {C C' : Callees} (hC : C.le C') : ∀ (ops : List NOper) {T : FEnv} {H : AHeap} {Q Q' : FEnv → AHeap → Prop}, wpO C ops T H Q → (∀ T H, Q T H → Q' T H) → wpO C' ops T H Q'
  | [], _, _, _, _, h, k => k _ _ h
  | o :: r, T, H, Q, Q', h, k => by
    simp only [wpO] at h ⊢
    split at h
    · exact wpO_monoC hC r h k
    · exact resW_mono hC h fun v H2 h2 => wpO_monoC hC r h2 k
theorem wpD_monoC {C C' : Callees} (hC : C.le C') : ∀ (ops : List NOper) {T : FEnv} {H : AHeap} {acc : List (FEnv × AHeap)} {Q Q' : List (FEnv × AHeap) → FEnv → AHeap → Prop}, wpD C ops T H acc Q → (∀ a T H, Q a T H → Q' a T H) → wpD C' ops T H acc Q'
  | [], _, _, _, _, _, h, k => k _ _ _ h
  | o :: r, T, H, acc, Q, Q', h, k => by
    simp only [wpD] at h ⊢
    split at h
    · exact wpD_monoC hC r h k
    · exact resW_mono hC h fun v H2 h2 => wpD_monoC hC r h2 k
theorem condK_mono {v : Value} {A B A' B' : Prop} (h : condK v A B) (ha : A → A') (hb : B → B') : condK v A' B' := by
  unfold condK at h ⊢
  split at h
  · exact ha h
  · exact hb h
  · exact h
theorem rangeK_monoC {C C' : Callees} (hC : C.le C') {gv : Value} {ps : List Nat} {asg body : Code} {l : Env} {H : AHeap} {Q Q' : NX → AHeap → Prop} (h : rangeK C gv ps asg body l H Q) (k : ∀ x H, Q x H → Q' x H) : rangeK C' gv ps asg body l H Q' := by
  unfold rangeK at h ⊢
  split at h
  case h_2 => exact h
  refine C'.mono (hC _ _ _ _ h) fun v H2 h2 => ?_
  split at h2
  case h_2 => exact h2.elim
  exact ⟨h2.1, k _ _ h2.2⟩
theorem wp_monoC {C C' : Callees} (hC : C.le C') : ∀ (c : NCode) {T : FEnv} {H : AHeap} {Q Q' : Post}, wp C c T H Q → (∀ x T H, Q x T H → Q' x T H) → wp C' c T H Q'
  | .skip, _, _, _, _, h, k => k _ _ _ h
  | .region ops, _, _, _, _, h, k => wpO_monoC hC ops h fun T H => k _ T H
  | .regionD ops chk, _, _, _, _, h, k => wpD_monoC hC ops h fun a T H h => ⟨h.1, k _ _ _ h.2⟩
  | .seq a b, T, H, Q, Q', h, k => wp_monoC hC a h fun x T H h => by
    cases x with
    | normal => exact wp_monoC hC b h k
    | exit i => exact k _ _ _ h
    | ret => exact k _ _ _ h
  | .cond c a b, T, H, Q, Q', h, k => condK_mono h (fun h => wp_monoC hC a h k) fun h => wp_monoC hC b h k
  | .block id a, T, H, Q, Q', h, k => wp_monoC hC a h fun x T H h => by
    cases x with
    | normal => exact k _ _ _ h
    | ret => exact k _ _ _ h
    | exit i =>
      simp only [blockK] at h ⊢
      split
      · rename_i e; rw [if_pos e] at h; exact k _ _ _ h
      · rename_i e; rw [if_neg e] at h; exact k _ _ _ h
  | .loop a, T, H, Q, Q', h, k => by
    obtain ⟨I, h0, h1⟩ := h
    refine ⟨I, h0, fun i T' H' hT hI => wp_monoC hC a (h1 i T' H' hT hI) fun x T H h => ?_⟩
    cases x with
    | normal => exact h
    | ret => exact k _ _ _ h
    | exit i => exact k _ _ _ h
  | .exit id, _, _, _, _, h, k => k _ _ _ h
  | .ret, _, _, _, _, h, k => k _ _ _ h
  | .rangeFunc g ps ag body n, T, H, Q, Q', h, k => fun l hl hn => rangeK_monoC hC (h l hl hn) fun x H h => k _ _ _ h
  | .stuck, _, _, _, _, h, _ => h.elim

/-! ### there is an outcome -/
theorem put_length (T : Env) (d : Option Nat) (v : Value) : (put T d v).length = T.length := by cases d <;> simp [put]

theorem put_other {T : Env} {d : Option Nat} {v : Value} {t : Nat} (h : d ≠ some t) : (put T d v)[t]? = T[t]? := by
  cases d with
  | none => rfl
  | some d =>
    have : d ≠ t := fun e => h (by rw [e])
    simp [put, List.getElem?_set, this]

theorem ofL_put_other {l : Env} {d : Option Nat} {v : Value} {i : Nat} (h : d ≠ some i) : ofL (put l d v) i = ofL l i := by
  simp only [ofL, List.getD_eq_getElem?_getD]
  rw [put_other h]

theorem not_dst {o : NOper} {r : List NOper} {i : Nat} (h : i ∉ asgO (o :: r)) : o.dst ≠ some i ∧ i ∉ asgO r := by
  simp only [asgO, List.mem_append, not_or] at h
  refine ⟨fun e => ?_, h.2⟩
  rw [e] at h
  simp at h

theorem wpO_feas {C : Callees} : ∀ (ops : List NOper) (l : Env) (H : AHeap) (Q : FEnv → AHeap → Prop), dstOkO l.length ops = true → wpO C ops (ofL l) H Q →
    ∃ l' H', Q (ofL l') H' ∧ l'.length = l.length ∧ ∀ i, i ∉ asgO ops → ofL l' i = ofL l i
  | [], l, H, Q, _, h => ⟨l, H, h, rfl, fun _ _ => rfl⟩
  | o :: r, l, H, Q, hd, h => by
    simp only [dstOkO, Bool.and_eq_true] at hd
    obtain ⟨hd1, hd2⟩ := hd
    have hlen : ∀ v, (put l o.dst v).length = l.length := fun v => put_length l o.dst v
    have key : ∀ v H1, wpO C r (putF (ofL l) o.dst v) H1 Q → ∃ l' H', Q (ofL l') H' ∧ l'.length = l.length ∧ ∀ i, i ∉ asgO (o :: r) → ofL l' i = ofL l i := by
      intro v H1 h
      rw [← ofL_put hd1] at h
      obtain ⟨l', H', hq, hl, ha⟩ := wpO_feas r _ H1 Q (by rw [hlen]; exact hd2) h
      exact ⟨l', H', hq, by rw [hl, hlen], fun i hi => (ha i (not_dst hi).2).trans (ofL_put_other (not_dst hi).1)⟩
    simp only [wpO] at h
    split at h
    · exact key _ _ h
    · obtain ⟨v, H1, h⟩ := resW_feas h
      exact key _ _ h

theorem wpD_feas {C : Callees} : ∀ (ops : List NOper) (l : Env) (H : AHeap) (acc : List (FEnv × AHeap)) (Q : List (FEnv × AHeap) → FEnv → AHeap → Prop), dstOkO l.length ops = true → wpD C ops (ofL l) H acc Q →
    ∃ tr l' H', Q (acc ++ (ofL l, H) :: tr) (ofL l') H' ∧ l'.length = l.length ∧ ∀ i, i ∉ asgO ops → ofL l' i = ofL l i
  | [], l, H, acc, Q, _, h => ⟨[], l, H, h, rfl, fun _ _ => rfl⟩
  | o :: r, l, H, acc, Q, hd, h => by
    simp only [dstOkO, Bool.and_eq_true] at hd
    obtain ⟨hd1, hd2⟩ := hd
    have hlen : ∀ v, (put l o.dst v).length = l.length := fun v => put_length l o.dst v
    have key : ∀ v H1, wpD C r (putF (ofL l) o.dst v) H1 (acc ++ [(ofL l, H)]) Q → ∃ tr l' H', Q (acc ++ (ofL l, H) :: tr) (ofL l') H' ∧ l'.length = l.length ∧ ∀ i, i ∉ asgO (o :: r) → ofL l' i = ofL l i := by
      intro v H1 h
      rw [← ofL_put hd1] at h
      obtain ⟨tr, l', H', hq, hl, ha⟩ := wpD_feas r _ H1 _ Q (by rw [hlen]; exact hd2) h
      rw [List.append_assoc] at hq
      exact ⟨_, l', H', hq, by rw [hl, hlen], fun i hi => (ha i (not_dst hi).2).trans (ofL_put_other (not_dst hi).1)⟩
    simp only [wpD] at h
    split at h
    · exact key _ _ h
    · obtain ⟨v, H1, h⟩ := resW_feas h
      exact key _ _ h

theorem wp_feas {C : Callees} : ∀ (c : NCode) (l : Env) (H : AHeap) (Q : Post), dstOk l.length c = true → wp C c (ofL l) H Q →
    ∃ x l' H', Q x (ofL l') H' ∧ l'.length = l.length ∧ ∀ i, i ∉ asg c → ofL l' i = ofL l i
  | .skip, l, H, Q, _, h => ⟨_, l, H, h, rfl, fun _ _ => rfl⟩
  | .ret, l, H, Q, _, h => ⟨_, l, H, h, rfl, fun _ _ => rfl⟩
  | .exit _, l, H, Q, _, h => ⟨_, l, H, h, rfl, fun _ _ => rfl⟩
  | .stuck, _, _, _, _, h => h.elim
  | .rangeFunc g ps ag body k, l, H, Q, hd, h => by
    have h := h l rfl (of_decide_eq_true hd)
    unfold rangeK at h
    split at h
    case h_2 => exact h.elim
    obtain ⟨v, H2, h⟩ := C.feas h
    split at h
    case h_2 => exact h.elim
    exact ⟨_, l, _, h.2, rfl, fun _ _ => rfl⟩
  | .region ops, l, H, Q, hd, h => by
    obtain ⟨l', H', hq, hl, ha⟩ := wpO_feas ops l H _ hd h
    exact ⟨_, l', H', hq, hl, ha⟩
  | .regionD ops chk, l, H, Q, hd, h => by
    obtain ⟨tr, l', H', ⟨_, hq⟩, hl, ha⟩ := wpD_feas ops l H [] _ hd h
    exact ⟨_, l', H', hq, hl, ha⟩
  | .seq a b, l, H, Q, hd, h => by
    simp only [dstOk, Bool.and_eq_true] at hd
    obtain ⟨x, l1, H1, hq, hl, ha⟩ := wp_feas a l H _ hd.1 h
    have ha' : ∀ i, i ∉ asg (.seq a b) → ofL l1 i = ofL l i := fun i hi => ha i (by simp only [asg, List.mem_append, not_or] at hi; exact hi.1)
    cases x with
    | normal =>
      obtain ⟨x, l2, H2, hq2, hl2, ha2⟩ := wp_feas b l1 H1 Q (by rw [hl]; exact hd.2) hq
      exact ⟨x, l2, H2, hq2, hl2.trans hl, fun i hi => (ha2 i (by simp only [asg, List.mem_append, not_or] at hi; exact hi.2)).trans (ha' i hi)⟩
    | exit i => exact ⟨_, l1, H1, hq, hl, ha'⟩
    | ret => exact ⟨_, l1, H1, hq, hl, ha'⟩
  | .cond c a b, l, H, Q, hd, h => by
    simp only [dstOk, Bool.and_eq_true] at hd
    simp only [wp, evF_ofL, condK] at h
    split at h
    · obtain ⟨x, l1, H1, hq, hl, ha⟩ := wp_feas a l H _ hd.1 h
      exact ⟨x, l1, H1, hq, hl, fun i hi => ha i (by simp only [asg, List.mem_append, not_or] at hi; exact hi.1)⟩
    · obtain ⟨x, l1, H1, hq, hl, ha⟩ := wp_feas b l H _ hd.2 h
      exact ⟨x, l1, H1, hq, hl, fun i hi => ha i (by simp only [asg, List.mem_append, not_or] at hi; exact hi.2)⟩
    · exact h.elim
  | .block id a, l, H, Q, hd, h => by
    obtain ⟨x, l1, H1, hq, hl, ha⟩ := wp_feas a l H _ hd h
    cases x with
    | normal => exact ⟨_, l1, H1, hq, hl, ha⟩
    | ret => exact ⟨_, l1, H1, hq, hl, ha⟩
    | exit i =>
      simp only [blockK] at hq
      by_cases e : i = id
      · rw [if_pos e] at hq
        exact ⟨_, l1, H1, hq, hl, ha⟩
      · rw [if_neg e] at hq
        exact ⟨_, l1, H1, hq, hl, ha⟩
  | .loop a, l, H, Q, hd, h => by
    obtain ⟨I, ⟨k, h0⟩, hs⟩ := h
    have key : ∀ (k : Nat) (l1 : Env) (H1 : AHeap), l1.length = l.length → (∀ i, i ∉ asg a → ofL l1 i = ofL l i) → I k (ofL l1) H1 →
        ∃ x l' H', Q x (ofL l') H' ∧ l'.length = l.length ∧ ∀ i, i ∉ asg a → ofL l' i = ofL l i := by
      intro k
      induction k using Nat.strongRecOn with
      | ind k ih =>
        intro l1 H1 hl hag hI
        obtain ⟨x, l2, H2, hq, hl2, ha2⟩ := wp_feas a l1 H1 _ (by rw [hl]; exact hd) (hs k _ _ hag hI)
        have hag2 : ∀ i, i ∉ asg a → ofL l2 i = ofL l i := fun i hi => (ha2 i hi).trans (hag i hi)
        cases x with
        | normal =>
          obtain ⟨k', hk', hI'⟩ := hq
          exact ih k' hk' l2 H2 (hl2.trans hl) hag2 hI'
        | ret => exact ⟨_, l2, H2, hq, hl2.trans hl, hag2⟩
        | exit i => exact ⟨_, l2, H2, hq, hl2.trans hl, hag2⟩
    exact key k l H rfl (fun _ _ => rfl) h0

end Go.E
