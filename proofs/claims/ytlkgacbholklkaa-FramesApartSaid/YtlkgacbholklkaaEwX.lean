/-
  THE EVALUATOR, PART X: steps of the weakest preconditions.
-/
import Derived.Test.YtlkgacbholklkaaEwW
set_option linter.unusedSimpArgs false
set_option linter.unusedVariables false
namespace Go.E
open Go
abbrev KO := FEnv → AHeap → Prop

def op1R (C : Callees) (o : NOper) (T : FEnv) (H : AHeap) (K : KO) : Prop :=
  match wantedF o.guard T with
  | false => K (putF T o.dst undef) H
  | true => resW C (o.op.sub T) H fun v H2 => K (putF T o.dst v) H2

structure op1 (C : Callees) (o : NOper) (T : FEnv) (H : AHeap) (K : KO) : Prop where
  out : ∀ K' : KO, (∀ T H, K T H → K' T H) → op1R C o T H K'
structure WO (C : Callees) (ops : List NOper) (T : FEnv) (H : AHeap) (Q : KO) : Prop where
  out : ∀ Q' : KO, (∀ T H, Q T H → Q' T H) → wpO C ops T H Q'
structure WD (C : Callees) (ops : List NOper) (T : FEnv) (H : AHeap) (rs : List (FEnv × AHeap)) (Q : List (FEnv × AHeap) → KO) : Prop where
  out : ∀ Q' : List (FEnv × AHeap) → KO, (∀ a T H, Q a T H → Q' a.reverse T H) → wpD C ops T H rs.reverse Q'
structure WP (C : Callees) (c : NCode) (T : FEnv) (H : AHeap) (Q : Post) : Prop where
  out : ∀ Q' : Post, (∀ x T H, Q x T H → Q' x T H) → wp C c T H Q'
structure SeqK (C : Callees) (b : NCode) (Q : Post) (x : NX) (T : FEnv) (H : AHeap) : Prop where
  out : match x with
    | .normal => WP C b T H Q
    | x => Q x T H
structure BlockK (id : Nat) (Q : Post) (x : NX) (T : FEnv) (H : AHeap) : Prop where
  out : blockK id Q x T H
structure IterK (I : Nat → FEnv → AHeap → Prop) (k : Nat) (Q : Post) (x : NX) (T : FEnv) (H : AHeap) : Prop where
  out : iterK I k Q x T H
structure RetK (rs : List NRes) (R : Value → AHeap → Prop) (x : NX) (T : FEnv) (H : AHeap) : Prop where
  out : retK rs R x T H
structure DK (ops : List NOper) (chk : List (List Nat)) (Q : Post) (rs : List (FEnv × AHeap)) (T : FEnv) (H : AHeap) : Prop where
  chk : chkF rs.reverse T ops chk 0
  out : Q .normal T H

theorem wpO_cons {C : Callees} {o : NOper} {r : List NOper} {T : FEnv} {H : AHeap} {Q : KO} (h : op1 C o T H (WO C r · · Q)) : WO C (o :: r) T H Q :=
  ⟨fun Q' hQ => h.out (fun T' H' => wpO C r T' H' Q') fun _ _ k => k.out Q' hQ⟩
theorem wpO_nil {C : Callees} {T : FEnv} {H : AHeap} {Q : KO} (h : Q T H) : WO C [] T H Q := ⟨fun Q' hQ => hQ _ _ h⟩
theorem wpD_cons {C : Callees} {o : NOper} {r : List NOper} {T : FEnv} {H : AHeap} {rs : List (FEnv × AHeap)} {Q : List (FEnv × AHeap) → KO} (h : op1 C o T H (WD C r · · ((T, H) :: rs) Q)) : WD C (o :: r) T H rs Q :=
  ⟨fun Q' hQ => h.out (fun T' H' => wpD C r T' H' (rs.reverse ++ [(T, H)]) Q') fun _ _ k => by
    have := k.out Q' hQ
    rwa [List.reverse_cons] at this⟩
theorem wpD_nil {C : Callees} {T : FEnv} {H : AHeap} {rs : List (FEnv × AHeap)} {Q : List (FEnv × AHeap) → KO} (h : Q ((T, H) :: rs) T H) : WD C [] T H rs Q := ⟨fun Q' hQ => by
  have := hQ _ _ _ h
  rwa [List.reverse_cons] at this⟩

theorem wp_seq {C : Callees} {a b : NCode} {T : FEnv} {H : AHeap} {Q : Post} (h : WP C a T H (SeqK C b Q)) : WP C (.seq a b) T H Q :=
  ⟨fun Q' hQ => h.out (seqK (fun T H Q => wp C b T H Q) Q') fun x T H k => by
    obtain ⟨k⟩ := k
    cases x with
    | normal => exact k.out Q' hQ
    | exit i => exact hQ _ _ _ k
    | ret => exact hQ _ _ _ k⟩
theorem wp_region {C : Callees} {ops : List NOper} {T : FEnv} {H : AHeap} {Q : Post} (h : WO C ops T H (Q .normal)) : WP C (.region ops) T H Q := ⟨fun Q' hQ => h.out (Q' .normal) fun T H k => hQ _ _ _ k⟩
theorem wp_regionD {C : Callees} {ops : List NOper} {chk : List (List Nat)} {T : FEnv} {H : AHeap} {Q : Post} (h : WD C ops T H [] (DK ops chk Q)) : WP C (.regionD ops chk) T H Q := ⟨fun Q' hQ => h.out (dK ops chk Q') fun _ T H k => ⟨k.chk, hQ _ _ _ k.out⟩⟩
theorem dk_of {ops : List NOper} {chk : List (List Nat)} {Q : Post} {sts : List (FEnv × AHeap)} {T : FEnv} {H : AHeap} (h1 : chkF sts.reverse T ops chk 0) (h2 : Q .normal T H) : DK ops chk Q sts T H := ⟨h1, h2⟩
theorem wp_block {C : Callees} {id : Nat} {a : NCode} {T : FEnv} {H : AHeap} {Q : Post} (h : WP C a T H (BlockK id Q)) : WP C (.block id a) T H Q :=
  ⟨fun Q' hQ => h.out (blockK id Q') fun x T H k => by
    obtain ⟨k⟩ := k
    cases x with
    | normal => exact hQ _ _ _ k
    | ret => exact hQ _ _ _ k
    | exit i =>
      simp only [blockK] at k ⊢
      split <;> rename_i e
      · rw [if_pos e] at k; exact hQ _ _ _ k
      · rw [if_neg e] at k; exact hQ _ _ _ k⟩
theorem wp_skip {C : Callees} {T : FEnv} {H : AHeap} {Q : Post} (h : Q .normal T H) : WP C .skip T H Q := ⟨fun Q' hQ => hQ _ _ _ h⟩
theorem wp_ret {C : Callees} {T : FEnv} {H : AHeap} {Q : Post} (h : Q .ret T H) : WP C .ret T H Q := ⟨fun Q' hQ => hQ _ _ _ h⟩
theorem wp_exit {C : Callees} {id : Nat} {T : FEnv} {H : AHeap} {Q : Post} (h : Q (.exit id) T H) : WP C (.exit id) T H Q := ⟨fun Q' hQ => hQ _ _ _ h⟩
theorem wp_true {C : Callees} {c : NOpd} {a b : NCode} {T : FEnv} {H : AHeap} {Q : Post} (hc : c.evF T = .bool true) (h : WP C a T H Q) : WP C (.cond c a b) T H Q :=
  ⟨fun Q' hQ => by simp only [wp, hc, condK]; exact h.out Q' hQ⟩
theorem wp_false {C : Callees} {c : NOpd} {a b : NCode} {T : FEnv} {H : AHeap} {Q : Post} (hc : c.evF T = .bool false) (h : WP C b T H Q) : WP C (.cond c a b) T H Q :=
  ⟨fun Q' hQ => by simp only [wp, hc, condK]; exact h.out Q' hQ⟩
theorem wp_cond {C : Callees} {c : NOpd} {a b : NCode} {T : FEnv} {H : AHeap} {Q : Post} {x : Bool} (hc : c.evF T = .bool x) (ha : x = true → WP C a T H Q) (hb : x = false → WP C b T H Q) : WP C (.cond c a b) T H Q := by
  cases x with
  | true => exact wp_true hc (ha rfl)
  | false => exact wp_false hc (hb rfl)
theorem wp_dec {C : Callees} {c : NOpd} {a b : NCode} {T : FEnv} {H : AHeap} {Q : Post} {p : Prop} [Decidable p] (hc : c.evF T = .bool (decide p)) (ha : p → WP C a T H Q) (hb : ¬ p → WP C b T H Q) : WP C (.cond c a b) T H Q := by
  by_cases h : p
  · exact wp_true (hc.trans (by rw [decide_eq_true h])) (ha h)
  · exact wp_false (hc.trans (by rw [decide_eq_false h])) (hb h)
theorem wp_ndec {C : Callees} {c : NOpd} {a b : NCode} {T : FEnv} {H : AHeap} {Q : Post} {p : Prop} [Decidable p] (hc : c.evF T = .bool (!decide p)) (ha : ¬ p → WP C a T H Q) (hb : p → WP C b T H Q) : WP C (.cond c a b) T H Q := by
  by_cases h : p
  · exact wp_false (hc.trans (by rw [decide_eq_true h]; rfl)) (hb h)
  · exact wp_true (hc.trans (by rw [decide_eq_false h]; rfl)) (ha h)

theorem seq_normal {C : Callees} {b : NCode} {Q : Post} {T : FEnv} {H : AHeap} (h : WP C b T H Q) : SeqK C b Q .normal T H := ⟨h⟩
theorem seq_ret {C : Callees} {b : NCode} {Q : Post} {T : FEnv} {H : AHeap} (h : Q .ret T H) : SeqK C b Q .ret T H := ⟨h⟩
theorem seq_exit {C : Callees} {b : NCode} {Q : Post} {T : FEnv} {H : AHeap} {i : Nat} (h : Q (.exit i) T H) : SeqK C b Q (.exit i) T H := ⟨h⟩
theorem block_normal {i : Nat} {Q : Post} {T : FEnv} {H : AHeap} (h : Q .normal T H) : BlockK i Q .normal T H := ⟨h⟩
theorem block_ret {i : Nat} {Q : Post} {T : FEnv} {H : AHeap} (h : Q .ret T H) : BlockK i Q .ret T H := ⟨h⟩
theorem block_exit {i : Nat} {Q : Post} {T : FEnv} {H : AHeap} (h : Q .normal T H) : BlockK i Q (.exit i) T H := ⟨by simp only [blockK, if_true]; exact h⟩
theorem block_other {i j : Nat} {Q : Post} {T : FEnv} {H : AHeap} (e : Nat.beq j i = false) (h : Q (.exit j) T H) : BlockK i Q (.exit j) T H := ⟨by
  have : ¬ j = i := fun k => by subst k; rw [show Nat.beq j j = true from Nat.beq_eq ▸ rfl] at e; cases e
  simp only [blockK, if_neg this]; exact h⟩
theorem iter_normal {I : Nat → KO} {k : Nat} {Q : Post} {T : FEnv} {H : AHeap} (h : ∃ k', k' < k ∧ I k' T H) : IterK I k Q .normal T H := ⟨h⟩
theorem iter_ret {I : Nat → KO} {k : Nat} {Q : Post} {T : FEnv} {H : AHeap} (h : Q .ret T H) : IterK I k Q .ret T H := ⟨h⟩
theorem iter_exit {I : Nat → KO} {k i : Nat} {Q : Post} {T : FEnv} {H : AHeap} (h : Q (.exit i) T H) : IterK I k Q (.exit i) T H := ⟨h⟩

/-! ### loops -/
def updL (T : FEnv) : List Nat → List Value → FEnv
  | d :: ds, v :: vs => updL (upd T d v) ds vs
  | _, _ => T
def havoc (A : List Nat) (T T' : FEnv) : FEnv := fun i => bif A.elem i then T' i else T i

theorem havoc_eq {A : List Nat} {T T' : FEnv} (h : ∀ i, i ∉ A → T' i = T i) : havoc A T T' = T' := by
  funext i
  simp only [havoc]
  cases e : A.elem i with
  | true => rfl
  | false => exact (h i (fun hm => by rw [List.elem_eq_true_of_mem hm] at e; cases e)).symm

theorem upd_self (T : FEnv) (d : Nat) (v : Value) (h : T d = v) : upd T d v = T := by
  funext i
  simp only [upd]
  cases e : Nat.beq d i with
  | true => rw [Nat.eq_of_beq_eq_true e] at h; exact h.symm
  | false => rfl

theorem updL_self (T : FEnv) : ∀ (ds : List Nat), updL T ds (ds.map T) = T
  | [] => rfl
  | d :: ds => by
    simp only [List.map_cons, updL]
    rw [upd_self T d _ rfl]
    exact updL_self T ds

theorem wp_loop {C : Callees} {a : NCode} {T : FEnv} {H : AHeap} {Q : Post} (ds : List Nat) (J : Nat → List Value → AHeap → Prop) (h0 : ∃ k, J k (ds.map T) H)
    (hs : ∀ k vs T' H', J k vs H' → WP C a (updL (havoc (asg a) T T') ds vs) H' (IterK (fun k' T2 H2 => J k' (ds.map T2) H2) k Q)) : WP C (.loop a) T H Q := by
  refine ⟨fun Q' hQ => ⟨fun k T H => J k (ds.map T) H, h0, fun k T' H' hag hJ => ?_⟩⟩
  have := hs k _ T' H' hJ
  rw [havoc_eq hag, updL_self] at this
  refine this.out _ fun x T H ⟨h⟩ => ?_
  cases x with
  | normal => exact h
  | ret => exact hQ _ _ _ h
  | exit i => exact hQ _ _ _ h


/-! ### cuts -/
theorem putF_other {T : FEnv} {d : Option Nat} {v : Value} {i : Nat} (h : i ∉ (match d with | some d => [d] | none => [])) : putF T d v i = T i := by
  cases d with
  | none => rfl
  | some d =>
    simp only [List.mem_singleton] at h
    simp only [putF, upd]
    cases e : Nat.beq d i with
    | true => exact absurd (Nat.eq_of_beq_eq_true e).symm h
    | false => rfl

theorem rangeK_mono {C : Callees} {gv : Value} {ps : List Nat} {ag body : Code} {l : Env} {H : AHeap} {Q Q' : NX → AHeap → Prop} (hq : ∀ x H, Q x H → Q' x H) (h : rangeK C gv ps ag body l H Q) : rangeK C gv ps ag body l H Q' := rangeK_monoC (Callees.le_refl C) h hq
theorem wpO_mono {C : Callees} {ops : List NOper} {T : FEnv} {H : AHeap} {Q Q' : FEnv → AHeap → Prop} (hq : ∀ T H, Q T H → Q' T H) (h : wpO C ops T H Q) : wpO C ops T H Q' := wpO_monoC (Callees.le_refl C) ops h hq
theorem wpD_mono {C : Callees} {ops : List NOper} {T : FEnv} {H : AHeap} {acc : List (FEnv × AHeap)} {Q Q' : List (FEnv × AHeap) → FEnv → AHeap → Prop} (hq : ∀ a T H, Q a T H → Q' a T H) (h : wpD C ops T H acc Q) : wpD C ops T H acc Q' := wpD_monoC (Callees.le_refl C) ops h hq
theorem wp_mono {C : Callees} {c : NCode} {T : FEnv} {H : AHeap} {Q Q' : Post} (hq : ∀ x T H, Q x T H → Q' x T H) (h : wp C c T H Q) : wp C c T H Q' := wp_monoC (Callees.le_refl C) c h hq

theorem wpO_frame {C : Callees} : ∀ {ops : List NOper} {T : FEnv} {H : AHeap} {Q : FEnv → AHeap → Prop}, wpO C ops T H Q → wpO C ops T H fun T' H' => Q T' H' ∧ ∀ i, i ∉ asgO ops → T' i = T i
  | [], T, H, Q, h => ⟨h, fun _ _ => rfl⟩
  | o :: r, T, H, Q, h => by
    simp only [wpO] at h ⊢
    have aux : ∀ v H1, wpO C r (putF T o.dst v) H1 Q → wpO C r (putF T o.dst v) H1 fun T' H' => Q T' H' ∧ ∀ i, i ∉ asgO (o :: r) → T' i = T i := fun v H1 k =>
      wpO_mono (fun T' H' ⟨h1, h2⟩ => ⟨h1, fun i hi => by
        simp only [asgO, List.mem_append, not_or] at hi
        exact (h2 i hi.2).trans (putF_other hi.1)⟩) (wpO_frame k)
    split at h
    · exact aux _ _ h
    · exact resW_mono (Callees.le_refl C) h fun v H' k => aux _ _ k

theorem wpD_frame {C : Callees} : ∀ {ops : List NOper} {T : FEnv} {H : AHeap} {acc : List (FEnv × AHeap)} {Q : List (FEnv × AHeap) → FEnv → AHeap → Prop}, wpD C ops T H acc Q → wpD C ops T H acc fun a T' H' => Q a T' H' ∧ ∀ i, i ∉ asgO ops → T' i = T i
  | [], T, H, acc, Q, h => ⟨h, fun _ _ => rfl⟩
  | o :: r, T, H, acc, Q, h => by
    simp only [wpD] at h ⊢
    have aux : ∀ v H1 acc, wpD C r (putF T o.dst v) H1 acc Q → wpD C r (putF T o.dst v) H1 acc fun a T' H' => Q a T' H' ∧ ∀ i, i ∉ asgO (o :: r) → T' i = T i := fun v H1 acc k =>
      wpD_mono (fun a T' H' ⟨h1, h2⟩ => ⟨h1, fun i hi => by
        simp only [asgO, List.mem_append, not_or] at hi
        exact (h2 i hi.2).trans (putF_other hi.1)⟩) (wpD_frame k)
    split at h
    · exact aux _ _ _ h
    · exact resW_mono (Callees.le_refl C) h fun v H' k => aux _ _ _ k

theorem wp_frame {C : Callees} : ∀ {c : NCode} {T : FEnv} {H : AHeap} {Q : Post}, wp C c T H Q → wp C c T H fun x T' H' => Q x T' H' ∧ ∀ i, i ∉ asg c → T' i = T i
  | .skip, T, H, Q, h => ⟨h, fun _ _ => rfl⟩
  | .ret, T, H, Q, h => ⟨h, fun _ _ => rfl⟩
  | .exit _, T, H, Q, h => ⟨h, fun _ _ => rfl⟩
  | .stuck, T, H, Q, h => h.elim
  | .rangeFunc g ps ag body k, T, H, Q, h => fun l hl hk => rangeK_mono (fun x H2 q => ⟨q, fun _ _ => rfl⟩) (h l hl hk)
  | .region ops, T, H, Q, h => wpO_frame h
  | .regionD ops chk, T, H, Q, h => wpD_mono (fun _ _ _ ⟨⟨h1, h2⟩, h3⟩ => ⟨h1, h2, h3⟩) (wpD_frame h)
  | .seq a b, T, H, Q, h => wp_mono (c := a) (fun x T1 H1 ⟨k, ha⟩ => by
      have hl : ∀ i, i ∉ asg (.seq a b) → i ∉ asg a ∧ i ∉ asg b := fun i hi => by simpa only [asg, List.mem_append, not_or] using hi
      cases x with
      | normal => exact wp_mono (c := b) (fun x T2 H2 ⟨k2, hb⟩ => ⟨k2, fun i hi => (hb i (hl i hi).2).trans (ha i (hl i hi).1)⟩) (wp_frame (c := b) k)
      | exit i => exact ⟨k, fun i hi => ha i (hl i hi).1⟩
      | ret => exact ⟨k, fun i hi => ha i (hl i hi).1⟩) (wp_frame (c := a) h)
  | .cond c a b, T, H, Q, h => by
    have hl : ∀ i, i ∉ asg (.cond c a b) → i ∉ asg a ∧ i ∉ asg b := fun i hi => by simpa only [asg, List.mem_append, not_or] using hi
    simp only [wp, condK] at h ⊢
    split at h
    · exact wp_mono (c := a) (fun x T1 H1 ⟨k, ha⟩ => ⟨k, fun i hi => ha i (hl i hi).1⟩) (wp_frame (c := a) h)
    · exact wp_mono (c := b) (fun x T1 H1 ⟨k, ha⟩ => ⟨k, fun i hi => ha i (hl i hi).2⟩) (wp_frame (c := b) h)
    · exact h
  | .block id a, T, H, Q, h => wp_mono (c := a) (fun x T1 H1 ⟨k, ha⟩ => by
      cases x with
      | normal => exact ⟨k, ha⟩
      | ret => exact ⟨k, ha⟩
      | exit i =>
        simp only [blockK] at k ⊢
        split <;> rename_i e
        · rw [if_pos e] at k; exact ⟨k, ha⟩
        · rw [if_neg e] at k; exact ⟨k, ha⟩) (wp_frame (c := a) h)
  | .loop a, T, H, Q, ⟨I, h0, hs⟩ => ⟨I, h0, fun k T' H' hag hI => wp_mono (c := a) (fun x T1 H1 ⟨k, ha⟩ => by
      cases x with
      | normal => exact k
      | exit i => exact ⟨k, fun i hi => (ha i hi).trans (hag i hi)⟩
      | ret => exact ⟨k, fun i hi => (ha i hi).trans (hag i hi)⟩) (wp_frame (c := a) (hs k T' H' hag hI))⟩

structure CutK (ds : List Nat) (J : List Value → AHeap → Prop) (x : NX) (T : FEnv) (H : AHeap) : Prop where
  nx : x = .normal
  out : J (ds.map T) H

theorem wp_cut {C : Callees} {a b : NCode} {T : FEnv} {H : AHeap} {Q : Post} (ds : List Nat) (J : List Value → AHeap → Prop) (h1 : WP C a T H (CutK ds J))
    (h2 : ∀ vs T' H', J vs H' → WP C b (updL (havoc (asg a) T T') ds vs) H' Q) : WP C (.seq a b) T H Q :=
  ⟨fun Q' hQ => wp_mono (c := a) (fun x T' H' ⟨k, ha⟩ => by
    obtain ⟨rfl, k⟩ := k
    have := h2 _ T' H' k
    rw [havoc_eq ha, updL_self] at this
    exact this.out Q' hQ) (wp_frame (c := a) (h1.out _ fun _ _ _ k => k))⟩
theorem cut0 {J : List Value → AHeap → Prop} {T : FEnv} {H : AHeap}  (k : J [] H) : CutK [] J .normal T H := by skip; exact ⟨rfl, k⟩
theorem cut1 {d0 : Nat} {v0 : Value} {J : List Value → AHeap → Prop} {T : FEnv} {H : AHeap} (h0 : T d0 = v0) (k : J [v0] H) : CutK [d0] J .normal T H := by subst h0; exact ⟨rfl, k⟩
theorem wpF_ofW {C : Callees} {f : Nat} {g : NFunc} (ho : Opens C f g) {args : List Value} (ha : decide (args.length ≤ g.ntmps) = true) (hd : dstOk g.ntmps g.body = true) {H : AHeap} {R : Value → AHeap → Prop}
    (h : WP C g.body (entF args) H (RetK g.results R)) : wpF C f args H R := wpF_of ho ha hd (h.out _ fun _ _ _ k => k.out)

/-! ### heaps -/
theorem AHeap.gs_same {H : AHeap} {b : Nat} {o : AObj} : (H.set b o).get b = o := by simp
theorem AHeap.ga_same {H : AHeap} {o : AObj} : (H.add o).get H.next = o := by simp
theorem AHeap.ga_lt {H : AHeap} {c : Nat} {o x : AObj} (h : c < H.next) (k : H.get c = x) : (H.add o).get c = x := by
  have : ¬ c = H.next := by omega
  simp [this, k]
/-! ### ranges over functions -/
theorem wp_rangeFunc {C : Callees} {g : NOpd} {ps : List Nat} {asg body : Code} {k : Nat} {T : FEnv} {H : AHeap} {Q : Post} {f : Nat} {cs : List Value} (hg : g.evF T = .func (.func f) ⟨[]⟩ ⟨cs⟩)
    (h : ∀ l, ofL l = T → k = l.length → ∀ b H1, b = H.next → H1 = H.add (.loop .ready none l ps asg body) → wpF C f (.func (.yield b) ⟨[]⟩ ⟨[]⟩ :: cs) H1 fun _ H2 => ∃ st pend l' ps' a' c', H2.get b = .loop st pend l' ps' a' c' ∧ isBusy st = false ∧ Q (jmpX pend) T (H2.set b .dead)) :
    WP C (.rangeFunc g ps asg body k) T H Q := ⟨fun Q' hQ => by
  intro l hl hk
  unfold rangeK
  rw [hg]
  refine wpC_mono (h l hl hk _ _ rfl rfl) ?_
  rintro v H2 ⟨st, pend, l', ps', a', c', h1, h2, h3⟩
  rw [h1]
  exact ⟨h2, hQ _ _ _ h3⟩⟩

theorem wp_round {C : Callees} {code : Code → Option NCode} (ho : OpensY C code) {b k : Nat} {args : List Value} {H : AHeap} {l : Env} {ps : List Nat} {asg body : Code} {pend : Option Jmp} {ca cb : NCode} {T : FEnv} {R : Value → AHeap → Prop}
    (hb : H.get b = .loop .ready pend l ps asg body) (ha : code asg = some ca) (hc : code body = some cb) (hlen : Nat.beq args.length ps.length = true) (hk : k = l.length) (hd : (dstOk k ca && dstOk k cb && ps.all fun p => decide (p < k)) = true) (hT : ofL l = T)
    (h : WP C ca (overF T ps args) H fun x T1 H1 => x = .normal ∧ ∃ pend, H1.get b = .loop .ready pend l ps asg body ∧ WP C cb T1 (H1.set b (.loop .busy pend l ps asg body)) fun x _ H3 => ∃ pend, H3.get b = .loop .busy pend l ps asg body ∧ R (.bool x.fin) (H3.set b (.loop (endSt x) x.jmp l ps asg body))) :
    wpC C (.yield b) args H R := by
  subst hk hT
  refine ho b args H R pend l ps asg body ca cb hb ha hc (Nat.eq_of_beq_eq_true hlen) hd (h.out _ ?_)
  rintro x T1 H1 ⟨h1, pend1, h2, h3⟩
  refine ⟨h1, pend1, l, ps, asg, body, h2, h3.out _ ?_⟩
  rintro x T H ⟨pend2, h4, h5⟩
  exact ⟨pend2, l, ps, asg, body, h4, h5⟩

/-! ### operations -/
section
variable {C : Callees} {T : FEnv} {H : AHeap} {K : KO}
theorem op1_skip {o : NOper} (hw : wantedF o.guard T = false) (k : K (putF T o.dst undef) H) : op1 C o T H K := ⟨fun K' hK => by simp only [op1R, hw]; exact hK _ _ k⟩
theorem op1_val {o : NOper} {v : Value} {H' : AHeap} (hw : wantedF o.guard T = true) (he : eop (o.op.sub T) [] H = some (.val v H')) (k : K (putF T o.dst v) H') : op1 C o T H K := ⟨fun K' hK => by simp only [op1R, hw, resW, he]; exact hK _ _ k⟩
theorem op1_call {o : NOper} {f : Nat} {args : List Value} {H' : AHeap} (hw : wantedF o.guard T = true) (he : eop (o.op.sub T) [] H = some (.call (.fn f) args H')) (k : wpF C f args H' fun v H2 => K (putF T o.dst v) H2) : op1 C o T H K :=
  ⟨fun K' hK => by simp only [op1R, hw, resW, he]; exact wpF_mono k fun v H' h => hK _ _ h⟩
theorem op1_callY {o : NOper} {b : Nat} {args : List Value} {H' : AHeap} (hw : wantedF o.guard T = true) (he : eop (o.op.sub T) [] H = some (.call (.yield b) args H')) (k : wpC C (.yield b) args H' fun v H2 => K (putF T o.dst v) H2) : op1 C o T H K :=
  ⟨fun K' hK => by simp only [op1R, hw, resW, he]; exact wpC_mono k fun v H' h => hK _ _ h⟩
theorem op1_split {dst : Option Nat} {op : NOp} {d : Nat} {w b : Bool} (hT : T d = .bool b) (ht : b = true → op1 C ⟨dst, op, some (d, w)⟩ (upd T d (.bool true)) H K) (hf : b = false → op1 C ⟨dst, op, some (d, w)⟩ (upd T d (.bool false)) H K) : op1 C ⟨dst, op, some (d, w)⟩ T H K := by
  cases b with
  | true => have := ht rfl; rwa [upd_self T d _ hT] at this
  | false => have := hf rfl; rwa [upd_self T d _ hT] at this
theorem op1_dec {dst : Option Nat} {op : NOp} {d : Nat} {w : Bool} {p : Prop} [Decidable p] (hT : T d = .bool (decide p)) (ht : p → op1 C ⟨dst, op, some (d, w)⟩ (upd T d (.bool true)) H K) (hf : ¬ p → op1 C ⟨dst, op, some (d, w)⟩ (upd T d (.bool false)) H K) : op1 C ⟨dst, op, some (d, w)⟩ T H K :=
  op1_split hT (fun h => ht (of_decide_eq_true h)) (fun h => hf (of_decide_eq_false h))
theorem op1_ndec {dst : Option Nat} {op : NOp} {d : Nat} {w : Bool} {p : Prop} [Decidable p] (hT : T d = .bool (!decide p)) (ht : ¬ p → op1 C ⟨dst, op, some (d, w)⟩ (upd T d (.bool true)) H K) (hf : p → op1 C ⟨dst, op, some (d, w)⟩ (upd T d (.bool false)) H K) : op1 C ⟨dst, op, some (d, w)⟩ T H K :=
  op1_split hT (fun h => ht (of_decide_eq_false (by simpa using h))) (fun h => hf (of_decide_eq_true (by simpa using h)))

theorem row_one {b o : Nat} {cs : List Value} {es : Nat} {ro : Bool} {v : Value} (hg : H.get b = .cells cs es ro) (hv : cs[o]? = some v) : H.row b o 1 = some [v] := by
  have hlt := (List.getElem?_eq_some_iff.1 hv).1
  simp only [AHeap.row, hg]
  rw [if_pos (by omega)]
  congr 1
  rw [List.take_one, List.head?_drop, hv]
  rfl

theorem ev_subF (x : NOpd) : (x.sub T).ev [] = x.evF T := by cases x <;> rfl
theorem subOpt_ev' (x : Option NOpd) : (subOpt T x).map (·.ev []) = x.map (·.evF T) := by
  cases x with
  | none => rfl
  | some x => simp [subOpt, ev_subF]

theorem op1_mov {x : NOpd} {v : Value} {d : Nat} {g : Option (Nat × Bool)} (hw : wantedF g T = true) (hx : x.evF T = v) (k : K (upd T d v) H) : op1 C ⟨some d, .mov x, g⟩ T H K := by
  refine op1_val hw ?_ k
  simp only [NOp.sub, eop, ev_subF, hx]
theorem op1_pick_t {c a b : NOpd} {v : Value} {d : Nat} {g : Option (Nat × Bool)} (hw : wantedF g T = true) (hc : c.evF T = .bool true) (hx : a.evF T = v) (k : K (upd T d v) H) : op1 C ⟨some d, .pick c a b, g⟩ T H K := by
  refine op1_val hw ?_ k
  simp only [NOp.sub, eop, ev_subF, hc, hx, if_true]
theorem op1_pick_f {c a b : NOpd} {v : Value} {d : Nat} {g : Option (Nat × Bool)} (hw : wantedF g T = true) (hc : c.evF T = .bool false) (hx : b.evF T = v) (k : K (upd T d v) H) : op1 C ⟨some d, .pick c a b, g⟩ T H K := by
  refine op1_val hw ?_ k
  simp only [NOp.sub, eop, ev_subF, hc, hx]
  rfl
theorem op1_alloc {es : Nat} {z : List Value} {d : Nat} {g : Option (Nat × Bool)} (hw : wantedF g T = true)  (k : K (upd T d (.pointer (some ⟨H.next, 0, none⟩))) (H.add (.cells z es false))) : op1 C ⟨some d, .alloc es z, g⟩ T H K := by
  refine op1_val hw ?_ k
  rfl
theorem op1_box1 {es : Nat} {x : NOpd} {v : Value} {d : Nat} {g : Option (Nat × Bool)} (hw : wantedF g T = true) (hx : x.evF T = v) (hc : cellsL v = [v]) (h1 : v.oneCell' = true) (k : K (upd T d (.pointer (some ⟨H.next, 0, none⟩))) (H.add (.cells [v] es false))) : op1 C ⟨some d, .box es x, g⟩ T H K := by
  refine op1_val hw ?_ k
  simp only [NOp.sub, eop, ev_subF, hx, hc, List.all_cons, List.all_nil, h1, Bool.and_true, if_true]
theorem op1_boxN {es : Nat} {x : NOpd} {vs : List Value} {d : Nat} {g : Option (Nat × Bool)} (hw : wantedF g T = true) (hx : x.evF T = .agg ⟨vs⟩) (h1 : vs.all (·.oneCell') = true) (k : K (upd T d (.pointer (some ⟨H.next, 0, none⟩))) (H.add (.cells vs es false))) : op1 C ⟨some d, .box es x, g⟩ T H K := by
  refine op1_val hw ?_ k
  have h2 : cellsL (.agg ⟨vs⟩) = vs := rfl
  simp only [NOp.sub, eop, ev_subF, hx, h2, h1, if_true]

structure BuildK (T : FEnv) (cs : List Value) (ps : List (Nat × Nat × NOpd)) (K : List Value → Prop) : Prop where
  out : ∃ cs', fillN cs ((subPs T ps).map fun (o, s, x) => (o, s, x.ev [])) = some cs' ∧ K cs'
theorem bk_nil {cs : List Value} {K : List Value → Prop} (k : K cs) : BuildK T cs [] K := ⟨cs, rfl, k⟩
theorem bk_one {cs : List Value} {o : Nat} {x : NOpd} {ps : List (Nat × Nat × NOpd)} {K : List Value → Prop} {v : Value} (hx : x.evF T = v) (hc : cellsL v = [v]) (h1 : v.oneCell' = true) (hl : Nat.ble (o + 1) cs.length = true)
    (k : BuildK T (cs.set o v) ps K) : BuildK T cs ((o, 1, x) :: ps) K := by
  obtain ⟨cs', h, k⟩ := k
  refine ⟨cs', ?_, k⟩
  have hl := Nat.le_of_ble_eq_true hl
  have e : cs.take o ++ [v] ++ cs.drop (o + 1) = cs.set o v := by
    rw [List.set_eq_take_append_cons_drop, if_pos (by omega)]; simp
  have h2 : [v].all (·.oneCell') = true := by simp [h1]
  simp only [subPs, List.map_cons, fillN, ev_subF, hx, hc]
  rw [if_pos ⟨rfl, hl, h2⟩, e]
  exact h
theorem bk_agg {cs : List Value} {o n : Nat} {x : NOpd} {ps : List (Nat × Nat × NOpd)} {K : List Value → Prop} {vs : List Value} (hx : x.evF T = .agg ⟨vs⟩) (hn : vs.length = n) (h1 : vs.all (·.oneCell') = true) (hl : Nat.ble (o + n) cs.length = true)
    (k : BuildK T (cs.take o ++ vs ++ cs.drop (o + n)) ps K) : BuildK T cs ((o, n, x) :: ps) K := by
  obtain ⟨cs', h, k⟩ := k
  refine ⟨cs', ?_, k⟩
  have hl := Nat.le_of_ble_eq_true hl
  have h2 : cellsL (.agg ⟨vs⟩) = vs := rfl
  simp only [subPs, List.map_cons, fillN, ev_subF, hx, h2]
  rw [if_pos ⟨hn, hl, h1⟩]
  exact h
theorem op1_build {z : List Value} {ps : List (Nat × Nat × NOpd)} {d : Nat} {g : Option (Nat × Bool)} (hw : wantedF g T = true) (k : BuildK T z ps fun cs => K (upd T d (.agg ⟨cs⟩)) H) : op1 C ⟨some d, .build z ps, g⟩ T H K := by
  obtain ⟨cs, h, k⟩ := k
  refine op1_val hw ?_ k
  simp only [NOp.sub, eop, h, Option.map_some]
theorem op1_bslice {es n : Nat} {z : List Value} {ps : List (Nat × Nat × NOpd)} {d : Nat} {g : Option (Nat × Bool)} (hw : wantedF g T = true) (k : BuildK T z ps fun cs => K (upd T d (.slice (some ⟨H.next, 0, none⟩) n n)) (H.add (.cells cs es false))) : op1 C ⟨some d, .bslice es n z ps, g⟩ T H K := by
  obtain ⟨cs, h, k⟩ := k
  refine op1_val hw ?_ k
  simp only [NOp.sub, eop, h, Option.map_some]

theorem op1_load {a : NOpd} {b o : Nat} {cs : List Value} {es : Nat} {ro : Bool} {v : Value} {d : Nat} {g : Option (Nat × Bool)} (hw : wantedF g T = true) (ha : a.evF T = .pointer (some ⟨b, o, none⟩)) (hg : H.get b = .cells cs es ro) (hv : cs[o]? = some v) (k : K (upd T d v) H) : op1 C ⟨some d, .load1 a, g⟩ T H K := by
  refine op1_val hw ?_ k
  simp only [NOp.sub, eop, ev_subF, ha, row_one hg hv, Option.bind_some, List.getElem?_cons_zero, Option.map_some]
theorem op1_loadN {n : Nat} {a : NOpd} {b o : Nat} {cs : List Value} {es : Nat} {ro : Bool} {vs : List Value} {d : Nat} {g : Option (Nat × Bool)} (hw : wantedF g T = true) (ha : a.evF T = .pointer (some ⟨b, o, none⟩)) (hg : H.get b = .cells cs es ro) (hl : o + n ≤ cs.length) (hv : (cs.drop o).take n = vs) (k : K (upd T d (.agg ⟨vs⟩)) H) : op1 C ⟨some d, .loadN n a, g⟩ T H K := by
  refine op1_val hw ?_ k
  simp only [NOp.sub, eop, ev_subF, ha, AHeap.row, hg, if_pos hl, hv, Option.map_some]
theorem op1_load_3 {a : NOpd} {b o : Nat} {cs : List Value} {es : Nat} {ro : Bool} {v0 v1 v2 : Value} {d : Nat} {g : Option (Nat × Bool)} (hw : wantedF g T = true) (ha : a.evF T = .pointer (some ⟨b, o, none⟩)) (hg : H.get b = .cells cs es ro) (hl : Nat.ble (o + 3) cs.length = true) (hv : (cs.drop o).take 3 = [v0, v1, v2])
    (k : K (upd T d (.agg ⟨[v0, v1, v2]⟩)) H) : op1 C ⟨some d, .loadN 3 a, g⟩ T H K := op1_loadN hw ha hg (Nat.le_of_ble_eq_true hl) hv k
theorem op1_load_5 {a : NOpd} {b o : Nat} {cs : List Value} {es : Nat} {ro : Bool} {v0 v1 v2 v3 v4 : Value} {d : Nat} {g : Option (Nat × Bool)} (hw : wantedF g T = true) (ha : a.evF T = .pointer (some ⟨b, o, none⟩)) (hg : H.get b = .cells cs es ro) (hl : Nat.ble (o + 5) cs.length = true) (hv : (cs.drop o).take 5 = [v0, v1, v2, v3, v4])
    (k : K (upd T d (.agg ⟨[v0, v1, v2, v3, v4]⟩)) H) : op1 C ⟨some d, .loadN 5 a, g⟩ T H K := op1_loadN hw ha hg (Nat.le_of_ble_eq_true hl) hv k
theorem op1_load_8 {a : NOpd} {b o : Nat} {cs : List Value} {es : Nat} {ro : Bool} {v0 v1 v2 v3 v4 v5 v6 v7 : Value} {d : Nat} {g : Option (Nat × Bool)} (hw : wantedF g T = true) (ha : a.evF T = .pointer (some ⟨b, o, none⟩)) (hg : H.get b = .cells cs es ro) (hl : Nat.ble (o + 8) cs.length = true) (hv : (cs.drop o).take 8 = [v0, v1, v2, v3, v4, v5, v6, v7])
    (k : K (upd T d (.agg ⟨[v0, v1, v2, v3, v4, v5, v6, v7]⟩)) H) : op1 C ⟨some d, .loadN 8 a, g⟩ T H K := op1_loadN hw ha hg (Nat.le_of_ble_eq_true hl) hv k
theorem op1_store1 {a x : NOpd} {b o : Nat} {cs : List Value} {es : Nat} {v : Value} {g : Option (Nat × Bool)} (hw : wantedF g T = true) (ha : a.evF T = .pointer (some ⟨b, o, none⟩)) (hx : x.evF T = v) (hc : cellsL v = [v]) (h1 : v.oneCell' = true) (hg : H.get b = .cells cs es false) (hl : Nat.ble (o + 1) cs.length = true)
    (k : K T (H.set b (.cells (cs.set o v) es false))) : op1 C ⟨none, .store 1 a x, g⟩ T H K := by
  have hl : o < cs.length := Nat.le_of_ble_eq_true hl
  refine op1_val (v := undef) hw ?_ k
  have hl' : o + [v].length ≤ cs.length := hl
  have h2 : [v].all (·.oneCell') = true := by simp [h1]
  simp only [NOp.sub, eop, ev_subF, ha, hx, hc, AHeap.putRow, hg]
  rw [if_pos (show [v].length = 1 from rfl), if_pos ⟨trivial, hl', h2⟩]
  have : cs.take o ++ [v] ++ cs.drop (o + [v].length) = cs.set o v := by
    rw [List.set_eq_take_append_cons_drop, if_pos hl]; simp
  rw [this]
  rfl

theorem op1_storeN {n : Nat} {a x : NOpd} {b o : Nat} {cs : List Value} {es : Nat} {xs : List Value} {g : Option (Nat × Bool)} (hw : wantedF g T = true) (ha : a.evF T = .pointer (some ⟨b, o, none⟩)) (hx : x.evF T = .agg ⟨xs⟩) (hn : xs.length = n) (h1 : xs.all (·.oneCell') = true) (hg : H.get b = .cells cs es false) (hl : o + n ≤ cs.length)
    (k : K T (H.set b (.cells (cs.take o ++ xs ++ cs.drop (o + n)) es false))) : op1 C ⟨none, .store n a x, g⟩ T H K := by
  refine op1_val (v := undef) hw ?_ k
  subst hn
  have h2 : cellsL (.agg ⟨xs⟩) = xs := rfl
  simp only [NOp.sub, eop, ev_subF, ha, hx, h2, if_true, AHeap.putRow, hg, h1]
  rw [if_pos ⟨trivial, hl, trivial⟩]
  rfl

theorem op1_nilchk {x : NOpd} {b o : Nat} {d : Nat} {g : Option (Nat × Bool)} (hw : wantedF g T = true) (hx : x.evF T = .pointer (some ⟨b, o, none⟩)) (k : K (upd T d (.pointer (some ⟨b, o, none⟩))) H) : op1 C ⟨some d, .nilchk x, g⟩ T H K := by
  refine op1_val hw ?_ k
  simp only [NOp.sub, eop, ev_subF, hx]
theorem op1_add {e : EqT} {x y : NOpd} {i : IntKind} {a b : Int} {d : Nat} {g : Option (Nat × Bool)} (hw : wantedF g T = true) (hx : x.evF T = .int i a) (hy : y.evF T = .int i b) (hr : i.wrap (a + b) = a + b) (k : K (upd T d (.int i (a + b))) H) : op1 C ⟨some d, .bin .add e x y, g⟩ T H K := by
  refine op1_val hw ?_ k
  simp only [NOp.sub, eop, ev_subF, hx, hy, binN, if_true, binInt, hr, Option.map_some]
theorem op1_sub {e : EqT} {x y : NOpd} {i : IntKind} {a b : Int} {d : Nat} {g : Option (Nat × Bool)} (hw : wantedF g T = true) (hx : x.evF T = .int i a) (hy : y.evF T = .int i b) (hr : i.wrap (a - b) = a - b) (k : K (upd T d (.int i (a - b))) H) : op1 C ⟨some d, .bin .sub e x y, g⟩ T H K := by
  refine op1_val hw ?_ k
  simp only [NOp.sub, eop, ev_subF, hx, hy, binN, if_true, binInt, hr, Option.map_some]
theorem op1_mul {e : EqT} {x y : NOpd} {i : IntKind} {a b : Int} {d : Nat} {g : Option (Nat × Bool)} (hw : wantedF g T = true) (hx : x.evF T = .int i a) (hy : y.evF T = .int i b) (hr : i.wrap (a * b) = a * b) (k : K (upd T d (.int i (a * b))) H) : op1 C ⟨some d, .bin .mul e x y, g⟩ T H K := by
  refine op1_val hw ?_ k
  simp only [NOp.sub, eop, ev_subF, hx, hy, binN, if_true, binInt, hr, Option.map_some]
theorem op1_rem {e : EqT} {x y : NOpd} {i : IntKind} {a b : Int} {d : Nat} {g : Option (Nat × Bool)} (hw : wantedF g T = true) (hx : x.evF T = .int i a) (hy : y.evF T = .int i b) (hr : b ≠ 0) (k : K (upd T d (.int i (a.tmod b))) H) : op1 C ⟨some d, .bin .rem e x y, g⟩ T H K := by
  refine op1_val hw ?_ k
  simp only [NOp.sub, eop, ev_subF, hx, hy, binN, if_true, binInt, if_neg hr, Option.map_some]
theorem op1_quo {e : EqT} {x y : NOpd} {i : IntKind} {a b : Int} {d : Nat} {g : Option (Nat × Bool)} (hw : wantedF g T = true) (hx : x.evF T = .int i a) (hy : y.evF T = .int i b) (hr : b ≠ 0) (hq : i.wrap (a.tdiv b) = a.tdiv b) (k : K (upd T d (.int i (a.tdiv b))) H) : op1 C ⟨some d, .bin .quo e x y, g⟩ T H K := by
  refine op1_val hw ?_ k
  simp only [NOp.sub, eop, ev_subF, hx, hy, binN, if_true, binInt, if_neg hr, hq, Option.map_some]
def bitAnd (i : IntKind) (a b : Int) : Int := i.wrap (BitVec.ofInt i.bits a &&& BitVec.ofInt i.bits b).toNat
theorem op1_and {e : EqT} {x y : NOpd} {i : IntKind} {a b : Int} {d : Nat} {g : Option (Nat × Bool)} (hw : wantedF g T = true) (hx : x.evF T = .int i a) (hy : y.evF T = .int i b) (k : K (upd T d (.int i (bitAnd i a b))) H) : op1 C ⟨some d, .bin .and e x y, g⟩ T H K := by
  refine op1_val hw ?_ k
  simp only [NOp.sub, eop, ev_subF, hx, hy, binN, if_true, binInt, Option.map_some, bitAnd]
theorem op1_lss {e : EqT} {x y : NOpd} {i : IntKind} {a b : Int} {d : Nat} {g : Option (Nat × Bool)} (hw : wantedF g T = true) (hx : x.evF T = .int i a) (hy : y.evF T = .int i b) (k : K (upd T d (.bool (decide (a < b)))) H) : op1 C ⟨some d, .bin .lss e x y, g⟩ T H K := by
  refine op1_val hw ?_ k
  simp only [NOp.sub, eop, ev_subF, hx, hy, binN, if_true, binInt, Option.map_some]
  try rfl
theorem op1_leq {e : EqT} {x y : NOpd} {i : IntKind} {a b : Int} {d : Nat} {g : Option (Nat × Bool)} (hw : wantedF g T = true) (hx : x.evF T = .int i a) (hy : y.evF T = .int i b) (k : K (upd T d (.bool (decide (a ≤ b)))) H) : op1 C ⟨some d, .bin .leq e x y, g⟩ T H K := by
  refine op1_val hw ?_ k
  simp only [NOp.sub, eop, ev_subF, hx, hy, binN, if_true, binInt, Option.map_some]
  try rfl
theorem op1_gtr {e : EqT} {x y : NOpd} {i : IntKind} {a b : Int} {d : Nat} {g : Option (Nat × Bool)} (hw : wantedF g T = true) (hx : x.evF T = .int i a) (hy : y.evF T = .int i b) (k : K (upd T d (.bool (decide (b < a)))) H) : op1 C ⟨some d, .bin .gtr e x y, g⟩ T H K := by
  refine op1_val hw ?_ k
  simp only [NOp.sub, eop, ev_subF, hx, hy, binN, if_true, binInt, Option.map_some]
  try rfl
theorem op1_geq {e : EqT} {x y : NOpd} {i : IntKind} {a b : Int} {d : Nat} {g : Option (Nat × Bool)} (hw : wantedF g T = true) (hx : x.evF T = .int i a) (hy : y.evF T = .int i b) (k : K (upd T d (.bool (decide (b ≤ a)))) H) : op1 C ⟨some d, .bin .geq e x y, g⟩ T H K := by
  refine op1_val hw ?_ k
  simp only [NOp.sub, eop, ev_subF, hx, hy, binN, if_true, binInt, Option.map_some]
  try rfl
theorem op1_eqlI {e : EqT} {x y : NOpd} {i : IntKind} {a b : Int} {d : Nat} {g : Option (Nat × Bool)} (hw : wantedF g T = true) (hx : x.evF T = .int i a) (hy : y.evF T = .int i b) (k : K (upd T d (.bool (decide (a = b)))) H) : op1 C ⟨some d, .bin .eql e x y, g⟩ T H K := by
  refine op1_val hw ?_ k
  simp only [NOp.sub, eop, ev_subF, hx, hy, binN, if_true, binInt, Option.map_some]
  congr 3
theorem op1_neqI {e : EqT} {x y : NOpd} {i : IntKind} {a b : Int} {d : Nat} {g : Option (Nat × Bool)} (hw : wantedF g T = true) (hx : x.evF T = .int i a) (hy : y.evF T = .int i b) (k : K (upd T d (.bool (!decide (a = b)))) H) : op1 C ⟨some d, .bin .neq e x y, g⟩ T H K := by
  refine op1_val hw ?_ k
  simp only [NOp.sub, eop, ev_subF, hx, hy, binN, if_true, binInt, Option.map_some]
  congr 3
theorem op1_eqlS {e : EqT} {x y : NOpd} {a b : ByteArray} {d : Nat} {g : Option (Nat × Bool)} (hw : wantedF g T = true) (hx : x.evF T = .string a) (hy : y.evF T = .string b) (k : K (upd T d (.bool (a.toList == b.toList))) H) : op1 C ⟨some d, .bin .eql e x y, g⟩ T H K := by
  refine op1_val hw ?_ k
  simp only [NOp.sub, eop, ev_subF, hx, hy, binN, binStr, Option.map_some]
theorem op1_bin_true {bo : BinOp} {e : EqT} {x y : NOpd} {u w : Value} {d : Nat} {g : Option (Nat × Bool)} (hw : wantedF g T = true) (hx : x.evF T = u) (hy : y.evF T = w) (hb : binN bo e u w = some (.bool true)) (k : K (upd T d (.bool true)) H) : op1 C ⟨some d, .bin bo e x y, g⟩ T H K := by
  refine op1_val hw ?_ k
  simp only [NOp.sub, eop, ev_subF, hx, hy, hb, Option.map_some]
theorem op1_bin_false {bo : BinOp} {e : EqT} {x y : NOpd} {u w : Value} {d : Nat} {g : Option (Nat × Bool)} (hw : wantedF g T = true) (hx : x.evF T = u) (hy : y.evF T = w) (hb : binN bo e u w = some (.bool false)) (k : K (upd T d (.bool false)) H) : op1 C ⟨some d, .bin bo e x y, g⟩ T H K := by
  refine op1_val hw ?_ k
  simp only [NOp.sub, eop, ev_subF, hx, hy, hb, Option.map_some]
theorem op1_not_t {x : NOpd} {d : Nat} {g : Option (Nat × Bool)} (hw : wantedF g T = true) (hx : x.evF T = .bool true) (k : K (upd T d (.bool false)) H) : op1 C ⟨some d, .un .not x, g⟩ T H K := by
  refine op1_val hw ?_ k
  simp only [NOp.sub, eop, ev_subF, hx, unN, Bool.not_true, Option.map_some]
theorem op1_not_f {x : NOpd} {d : Nat} {g : Option (Nat × Bool)} (hw : wantedF g T = true) (hx : x.evF T = .bool false) (k : K (upd T d (.bool true)) H) : op1 C ⟨some d, .un .not x, g⟩ T H K := by
  refine op1_val hw ?_ k
  simp only [NOp.sub, eop, ev_subF, hx, unN, Bool.not_false, Option.map_some]
theorem op1_not {x : NOpd} {a : Bool} {d : Nat} {g : Option (Nat × Bool)} (hw : wantedF g T = true) (hx : x.evF T = .bool a) (k : K (upd T d (.bool (!a))) H) : op1 C ⟨some d, .un .not x, g⟩ T H K := by
  refine op1_val hw ?_ k
  simp only [NOp.sub, eop, ev_subF, hx, unN, Option.map_some]
theorem op1_faddr {n : Nat} {x : NOpd} {b o : Nat} {d : Nat} {g : Option (Nat × Bool)} (hw : wantedF g T = true) (hx : x.evF T = .pointer (some ⟨b, o, none⟩)) (k : K (upd T d (.pointer (some ⟨b, o + n, none⟩))) H) : op1 C ⟨some d, .faddr n x, g⟩ T H K := by
  refine op1_val hw ?_ k
  simp only [NOp.sub, eop, ev_subF, hx]
theorem op1_faddr0 {n : Nat} {x : NOpd} {b : Nat} {d : Nat} {g : Option (Nat × Bool)} (hw : wantedF g T = true) (hx : x.evF T = .pointer (some ⟨b, 0, none⟩)) (k : K (upd T d (.pointer (some ⟨b, n, none⟩))) H) : op1 C ⟨some d, .faddr n x, g⟩ T H K := by
  refine op1_val hw ?_ k
  simp only [NOp.sub, eop, ev_subF, hx, Nat.zero_add]
theorem op1_iaddr {es : Nat} {x i : NOpd} {b o l c : Nat} {ki : IntKind} {n : Int} {d : Nat} {g : Option (Nat × Bool)} (hw : wantedF g T = true) (hx : x.evF T = .slice (some ⟨b, o, none⟩) l c) (hi : i.evF T = .int ki n) (h0 : 0 ≤ n) (h1 : n < l) (k : K (upd T d (.pointer (some ⟨b, o + n.toNat * es, none⟩))) H) : op1 C ⟨some d, .iaddr es x i, g⟩ T H K := by
  refine op1_val hw ?_ k
  simp only [NOp.sub, eop, ev_subF, hx, hi]
  rw [if_pos ⟨h0, h1⟩]
theorem op1_extract {n : Nat} {x : NOpd} {vs : List Value} {v : Value} {d : Nat} {g : Option (Nat × Bool)} (hw : wantedF g T = true) (hx : x.evF T = .tuple ⟨vs⟩) (hv : vs[n]? = some v) (k : K (upd T d v) H) : op1 C ⟨some d, .extract x n, g⟩ T H K := by
  refine op1_val hw ?_ k
  simp only [NOp.sub, eop, ev_subF, hx, hv, Option.map_some]
theorem op1_len {x : NOpd} {a : Option Addr} {n c : Nat} {d : Nat} {g : Option (Nat × Bool)} (hw : wantedF g T = true) (hx : x.evF T = .slice a n c) (k : K (upd T d (.int .i64 n)) H) : op1 C ⟨some d, .len 1 x, g⟩ T H K := by
  refine op1_val hw ?_ k
  simp only [NOp.sub, eop, ev_subF, hx]
theorem op1_lenS {x : NOpd} {s : ByteArray} {d : Nat} {g : Option (Nat × Bool)} (hw : wantedF g T = true) (hx : x.evF T = .string s) (k : K (upd T d (.int .i64 s.size)) H) : op1 C ⟨some d, .len 0 x, g⟩ T H K := by
  refine op1_val hw ?_ k
  simp only [NOp.sub, eop, ev_subF, hx]
theorem op1_min {x y : NOpd} {i : IntKind} {a b : Int} {d : Nat} {g : Option (Nat × Bool)} (hw : wantedF g T = true) (hx : x.evF T = .int i a) (hy : y.evF T = .int i b) (k : K (upd T d (.int i (min a b))) H) : op1 C ⟨some d, .minmax false [x, y], g⟩ T H K := by
  refine op1_val hw ?_ k
  have e : (if b < a then b else a) = min a b := by omega
  simp only [NOp.sub, eop, ev_subF, subs, List.map_cons, List.map_nil, hx, hy, minmaxL, minmax2, if_true, Option.bind_some, Option.map_some, Bool.false_eq_true, if_false, e]
theorem op1_max {x y : NOpd} {i : IntKind} {a b : Int} {d : Nat} {g : Option (Nat × Bool)} (hw : wantedF g T = true) (hx : x.evF T = .int i a) (hy : y.evF T = .int i b) (k : K (upd T d (.int i (max a b))) H) : op1 C ⟨some d, .minmax true [x, y], g⟩ T H K := by
  refine op1_val hw ?_ k
  have e : (if b > a then b else a) = max a b := by omega
  simp only [NOp.sub, eop, ev_subF, subs, List.map_cons, List.map_nil, hx, hy, minmaxL, minmax2, if_true, Option.bind_some, Option.map_some, e]
theorem op1_mkmap  {d : Nat} {g : Option (Nat × Bool)} (hw : wantedF g T = true)  (k : K (upd T d (.map (some H.next))) (H.add (.map [] 0))) : op1 C ⟨some d, .mkmap, g⟩ T H K := by
  refine op1_val hw ?_ k
  rfl
theorem op1_mkslice {es by_ : Nat} {z : List Value} {l c : NOpd} {i j : IntKind} {n m : Int} {d : Nat} {g : Option (Nat × Bool)} (hw : wantedF g T = true) (hl : l.evF T = .int i n) (hc : c.evF T = .int j m) (h0 : 0 ≤ n) (h1 : n ≤ m) (h2 : m ≤ 2147483648) (k : K (upd T d (.slice (some ⟨H.next, 0, none⟩) n.toNat m.toNat)) (H.add (.cells (zeroOf z m.toNat) es false))) : op1 C ⟨some d, .mkslice es by_ z l c, g⟩ T H K := by
  refine op1_val hw ?_ k
  simp only [NOp.sub, eop, ev_subF, hl, hc]
  rw [if_pos ⟨h0, h1, by simp only [limit]; omega⟩]
theorem op1_mkfunc2 {f : Nat} {c0 c1 : NOpd} {v0 v1 : Value} {d : Nat} {g : Option (Nat × Bool)} (hw : wantedF g T = true) (h0 : c0.evF T = v0) (h1 : c1.evF T = v1) (k : K (upd T d (.func (.func f) ⟨[]⟩ ⟨[v0, v1]⟩)) H) : op1 C ⟨some d, .mkfunc f [] [c0, c1], g⟩ T H K := by
  refine op1_val hw ?_ k
  simp only [NOp.sub, eop, ev_subF, subs, List.map_cons, List.map_nil, h0, h1]
/-! slicing -/
theorem bnds_hi {l c : Nat} {i : IntKind} {n : Int} (h0 : 0 ≤ n) (h1 : n ≤ c) : sliceBnds l c none (some (.int i n)) none = some (0, n.toNat, c) := by
  simp only [sliceBnds, bnd, Nat.le_refl, if_true, Option.bind_some]
  rw [if_pos ⟨h0, h1⟩]
  simp
theorem op1_slice {es : Nat} {x : NOpd} {lo hi mx : Option NOpd} {b o l c i h m : Nat} {cs : List Value} {es' : Nat} {ro : Bool} {d : Nat} {g : Option (Nat × Bool)} (hw : wantedF g T = true) (hx : x.evF T = .slice (some ⟨b, o, none⟩) l c) (hc : c ≠ 0) (hb : sliceBnds l c (lo.map (·.evF T)) (hi.map (·.evF T)) (mx.map (·.evF T)) = some (i, h, m)) (hg : H.get b = .cells cs es' ro) (he : es' = 0 ∨ es' = es) (k : K (upd T d (.slice (some ⟨b, o + i * es, none⟩) (h - i) (m - i))) H) : op1 C ⟨some d, .slice es x lo hi mx, g⟩ T H K := by
  refine op1_val hw ?_ k
  simp only [NOp.sub, eop, ev_subF, hx, subOpt_ev', hb, Option.bind_some, if_neg hc, hg, if_pos he]
theorem op1_slice0 {es : Nat} {x : NOpd} {lo hi mx : Option NOpd} {a : Addr} {i h m l : Nat} {d : Nat} {g : Option (Nat × Bool)} (hw : wantedF g T = true) (hx : x.evF T = .slice (some a) l 0) (hb : sliceBnds l 0 (lo.map (·.evF T)) (hi.map (·.evF T)) (mx.map (·.evF T)) = some (i, h, m)) (k : K (upd T d (.slice (some a) 0 0)) H) : op1 C ⟨some d, .slice es x lo hi mx, g⟩ T H K := by
  refine op1_val hw ?_ k
  simp only [NOp.sub, eop, ev_subF, hx, subOpt_ev', hb, Option.bind_some, if_true]
theorem op1_sliceNil {es : Nat} {x : NOpd} {lo hi mx : Option NOpd} {i h m l c : Nat} {d : Nat} {g : Option (Nat × Bool)} (hw : wantedF g T = true) (hx : x.evF T = .slice none l c) (hb : sliceBnds l c (lo.map (·.evF T)) (hi.map (·.evF T)) (mx.map (·.evF T)) = some (i, h, m)) (k : K (upd T d (.slice none 0 0)) H) : op1 C ⟨some d, .slice es x lo hi mx, g⟩ T H K := by
  refine op1_val hw ?_ k
  simp only [NOp.sub, eop, ev_subF, hx, subOpt_ev', hb, Option.bind_some]
theorem op1_append {es by_ : Nat} {s x : NOpd} {u w v : Value} {H' : AHeap} {d : Nat} {g : Option (Nat × Bool)} (hw : wantedF g T = true) (hs : s.evF T = u) (hx : x.evF T = w) (ha : H.appendV es u w = some (v, H')) (k : K (upd T d v) H') : op1 C ⟨some d, .append es by_ s x, g⟩ T H K := by
  refine op1_val hw ?_ k
  simp only [NOp.sub, eop, ev_subF, hs, hx, ha, Option.map_some]
theorem op1_lookup {kd : TypeDesc} {z : Value} {m x : NOpd} {ok : Bool} {u w : Value} {es : List MapEntry} {r : Option (Nat × Value)} {d : Nat} {g : Option (Nat × Bool)} (hw : wantedF g T = true) (hx : x.evF T = w) (hm' : m.evF T = u) (hk : keyOk kd w = true) (hm : H.mapOf u = some es) (hf : Instr.findNow kd w es 0 = some r) (k : K (upd T d (lookRes z ok r)) H) : op1 C ⟨some d, .lookup kd z m x ok, g⟩ T H K := by
  refine op1_val hw ?_ k
  simp only [NOp.sub, eop, ev_subF, hx, hm', hk, if_true, hm, hf, Option.bind_some, Option.map_some]
theorem op1_call0 {f : Nat} {d : Nat} {g : Option (Nat × Bool)} (hw : wantedF g T = true)  (k : wpF C f [] H fun v H2 => K (upd T d v) H2) : op1 C ⟨some d, .call (.c (.func (.func f) #[] #[])) [], g⟩ T H K := by
  refine op1_call hw ?_ k
  have hf : (NOpd.c (.func (.func f) #[] #[])).evF T = .func (.func f) ⟨[]⟩ ⟨[]⟩ := rfl
  simp only [NOp.sub, eop, ev_subF, hf, subs, List.map_cons, List.map_nil]
  rfl
theorem op1_call1 {f : Nat} {c0 : NOpd} {v0 : Value} {d : Nat} {g : Option (Nat × Bool)} (hw : wantedF g T = true) (h0 : c0.evF T = v0) (k : wpF C f [v0] H fun v H2 => K (upd T d v) H2) : op1 C ⟨some d, .call (.c (.func (.func f) #[] #[])) [c0], g⟩ T H K := by
  refine op1_call hw ?_ k
  have hf : (NOpd.c (.func (.func f) #[] #[])).evF T = .func (.func f) ⟨[]⟩ ⟨[]⟩ := rfl
  simp only [NOp.sub, eop, ev_subF, hf, subs, List.map_cons, List.map_nil, h0]
  rfl
theorem op1_call2 {f : Nat} {c0 c1 : NOpd} {v0 v1 : Value} {d : Nat} {g : Option (Nat × Bool)} (hw : wantedF g T = true) (h0 : c0.evF T = v0) (h1 : c1.evF T = v1) (k : wpF C f [v0, v1] H fun v H2 => K (upd T d v) H2) : op1 C ⟨some d, .call (.c (.func (.func f) #[] #[])) [c0, c1], g⟩ T H K := by
  refine op1_call hw ?_ k
  have hf : (NOpd.c (.func (.func f) #[] #[])).evF T = .func (.func f) ⟨[]⟩ ⟨[]⟩ := rfl
  simp only [NOp.sub, eop, ev_subF, hf, subs, List.map_cons, List.map_nil, h0, h1]
  rfl
theorem op1_yield2 {b : Nat} {ff : NOpd} {c0 c1 : NOpd} {v0 v1 : Value} {d : Nat} {g : Option (Nat × Bool)} (hw : wantedF g T = true) (hff : ff.evF T = .func (.yield b) ⟨[]⟩ ⟨[]⟩) (h0 : c0.evF T = v0) (h1 : c1.evF T = v1) (k : wpC C (.yield b) [v0, v1] H fun v H2 => K (upd T d v) H2) : op1 C ⟨some d, .call ff [c0, c1], g⟩ T H K := by
  refine op1_callY hw ?_ k
  simp only [NOp.sub, eop, ev_subF, hff, subs, List.map_cons, List.map_nil, h0, h1]
theorem op1_call3 {f : Nat} {c0 c1 c2 : NOpd} {v0 v1 v2 : Value} {d : Nat} {g : Option (Nat × Bool)} (hw : wantedF g T = true) (h0 : c0.evF T = v0) (h1 : c1.evF T = v1) (h2 : c2.evF T = v2) (k : wpF C f [v0, v1, v2] H fun v H2 => K (upd T d v) H2) : op1 C ⟨some d, .call (.c (.func (.func f) #[] #[])) [c0, c1, c2], g⟩ T H K := by
  refine op1_call hw ?_ k
  have hf : (NOpd.c (.func (.func f) #[] #[])).evF T = .func (.func f) ⟨[]⟩ ⟨[]⟩ := rfl
  simp only [NOp.sub, eop, ev_subF, hf, subs, List.map_cons, List.map_nil, h0, h1, h2]
  rfl
end
/-! ### what a region that draws its order is asked -/
theorem chk_end {sts : List (FEnv × AHeap)} {Tf : FEnv} {cs : List (List Nat)} {r : Nat} : chkF sts Tf [] cs r := by unfold chkF; trivial
theorem chk_skip {sts : List (FEnv × AHeap)} {Tf : FEnv} {o : NOper} {os : List NOper} {cs : List (List Nat)} {r : Nat} (h : chkF sts Tf os cs (r + 1)) : chkF sts Tf (o :: os) ([] :: cs) r := by unfold chkF; exact h
theorem rev_get {α : Type} {rs : List α} {r n : Nat} {x : α} (hn : r + n + 1 = rs.length) (hs : rs[n]? = some x) : rs.reverse[r]? = some x := by
  rw [List.getElem?_reverse (by omega), show rs.length - 1 - r = n by omega, hs]
theorem chk_cons {rs : List (FEnv × AHeap)} {Tf : FEnv} {o : NOper} {os : List NOper} {b : Nat} {c : List Nat} {cs : List (List Nat)} {r d : Nat} {T : FEnv} {H : AHeap} (n : Nat) (hn : r + n + 1 = rs.length) (hs : rs[n]? = some (T, H)) (hd : o.dst = some d) (h : chkFs rs.reverse o.op d Tf T (b :: c)) (k : chkF rs.reverse Tf os cs (r + 1)) : chkF rs.reverse Tf (o :: os) ((b :: c) :: cs) r := by
  unfold chkF
  rw [rev_get hn hs]
  refine ⟨fun _ => ?_, k⟩
  rw [hd]
  exact h
theorem chkFs_nil {sts : List (FEnv × AHeap)} {Tf T : FEnv} {o : NOp} {d : Nat} : chkFs sts o d Tf T [] := trivial
theorem chkFs_cons {rs : List (FEnv × AHeap)} {Tf T T' : FEnv} {o : NOp} {d b : Nat} {c : List Nat} {H : AHeap} (n : Nat) (hn : b + n + 1 = rs.length) (hb : rs[n]? = some (T', H)) (h : chkF1 o d Tf T H) (k : chkFs rs.reverse o d Tf T c) : chkFs rs.reverse o d Tf T (b :: c) := by
  unfold chkFs
  rw [rev_get hn hb]
  exact ⟨h, k⟩
theorem chk_load {Tf T : FEnv} {a : NOpd} {d : Nat} {H : AHeap} {b o : Nat} {cs : List Value} {es : Nat} {ro : Bool} {v : Value} (ha : a.evF T = .pointer (some ⟨b, o, none⟩)) (hg : H.get b = .cells cs es ro) (hv : cs[o]? = some v) (hd : Tf d = v) : chkF1 (.load1 a) d Tf T H := by
  refine ⟨H, ?_⟩
  simp only [NOp.sub, eop, ev_subF, ha, row_one hg hv, Option.bind_some, List.getElem?_cons_zero, Option.map_some, hd]
theorem chk_loadN {Tf T : FEnv} {n : Nat} {a : NOpd} {d : Nat} {H : AHeap} {b o : Nat} {cs : List Value} {es : Nat} {ro : Bool} {vs : List Value} (ha : a.evF T = .pointer (some ⟨b, o, none⟩)) (hg : H.get b = .cells cs es ro) (hl : Nat.ble (o + n) cs.length = true) (hd : Tf d = .agg ⟨vs⟩) (hv : (cs.drop o).take n = vs) : chkF1 (.loadN n a) d Tf T H := by
  refine ⟨H, ?_⟩
  have hl := Nat.le_of_ble_eq_true hl
  simp only [NOp.sub, eop, ev_subF, ha, AHeap.row, hg, if_pos hl, hv, Option.map_some, hd]
/-! ### results -/
structure ResK (T : FEnv) (H : AHeap) (rs : List NRes) (K : List Value → Prop) : Prop where
  out : ∃ vs, resultsF T H rs = some vs ∧ K vs
theorem ret_of {rs : List NRes} {R : Value → AHeap → Prop} {T : FEnv} {H : AHeap} (k : ResK T H rs fun vs => R (resultV vs) H) : RetK rs R .ret T H := ⟨k.out⟩
theorem nrm_of {rs : List NRes} {R : Value → AHeap → Prop} {T : FEnv} {H : AHeap} (k : ResK T H rs fun vs => R (resultV vs) H) : RetK rs R .normal T H := ⟨k.out⟩
theorem rk_nil {T : FEnv} {H : AHeap} {K : List Value → Prop} (k : K []) : ResK T H [] K := ⟨[], rfl, k⟩
theorem rk_tmp {T : FEnv} {H : AHeap} {t : Nat} {rs : List NRes} {K : List Value → Prop} {v : Value} (h : T t = v) (k : ResK T H rs fun vs => K (v :: vs)) : ResK T H (.tmp t :: rs) K := by
  obtain ⟨vs, h1, k⟩ := k
  refine ⟨_, ?_, k⟩
  simp only [resultsF, resF, h, h1, Option.bind_some, Option.map_some]
theorem rk_cellN {T : FEnv} {H : AHeap} {t b o n : Nat} {cs : List Value} {es : Nat} {ro : Bool} {rs : List NRes} {K : List Value → Prop} {us : List Value} (h : T t = .pointer (some ⟨b, o, none⟩)) (hg : H.get b = .cells cs es ro) (hl : Nat.ble (o + n) cs.length = true) (hv : (cs.drop o).take n = us) (k : ResK T H rs fun vs => K (.agg ⟨us⟩ :: vs)) : ResK T H (.cell t (some n) :: rs) K := by
  obtain ⟨vs, h1, k⟩ := k
  refine ⟨_, ?_, k⟩
  have hl := Nat.le_of_ble_eq_true hl
  simp only [resultsF, resF, h, AHeap.row, hg, if_pos hl, hv, h1, Option.bind_some, Option.map_some]

/-! ### numbers -/
theorem wrap_i64 {n : Int} (h0 : -9223372036854775808 ≤ n) (h1 : n ≤ 9223372036854775807) : IntKind.i64.wrap n = n := by
  unfold IntKind.wrap; simp [IntKind.bits, IntKind.signed]; split <;> omega
/-! ### several steps in one (for texts that a program shortens) -/
section
variable {C : Callees} {T : FEnv} {H : AHeap}
theorem zw1 {x : NOpd} {v : Value} {d : Nat} {g : Option (Nat × Bool)} {r : List NOper} {Q : KO} (k : WO C r (upd T d v) H Q) (hx : x.evF T = v := by (conv => lhs; whnf) <;> rfl) (hw : wantedF g T = true := by rfl) : WO C (⟨some d, .mov x, g⟩ :: r) T H Q := wpO_cons (op1_mov hw hx k)
theorem zd1 {x : NOpd} {v : Value} {d : Nat} {g : Option (Nat × Bool)} {r : List NOper} {rs : List (FEnv × AHeap)} {Q : List (FEnv × AHeap) → KO} (k : WD C r (upd T d v) H ((T, H) :: rs) Q) (hx : x.evF T = v := by (conv => lhs; whnf) <;> rfl) (hw : wantedF g T = true := by rfl) : WD C (⟨some d, .mov x, g⟩ :: r) T H rs Q := wpD_cons (op1_mov hw hx k)
theorem zsr {ops : List NOper} {b : NCode} {Q : Post} (h : WO C ops T H (SeqK C b Q .normal)) : WP C (.seq (.region ops) b) T H Q := wp_seq (wp_region h)
theorem zns {b : NCode} {Q : Post} (h : WP C b T H Q) : WO C [] T H (SeqK C b Q .normal) := wpO_nil (seq_normal h)
end
end Go.E
