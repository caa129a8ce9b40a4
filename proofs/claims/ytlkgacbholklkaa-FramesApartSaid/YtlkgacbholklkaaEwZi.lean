/-
  THE EVALUATOR, PART ZI: maps with keys that are looked up at once (whole numbers, strings), as assertions.
-/
import Derived.Test.YtlkgacbholklkaaEwZh
set_option linter.unusedSimpArgs false
set_option linter.unusedVariables false
set_option linter.unusedSectionVars false
namespace Go.E
open Go
structure KeyEnc {α : Type} [DecidableEq α] (kd : TypeDesc) (enc : α → Value) : Prop where
  ok : ∀ a, keyOk kd (enc a) = true
  same : ∀ a b, Instr.sameNow kd (enc a) (enc b) = some (decide (a = b))
theorem keyI64 : KeyEnc (.int .i64) (fun n : Int => .int .i64 n) := ⟨fun a => rfl, fun a b => by
  simp only [Instr.sameNow, if_true, Option.some.injEq]
  by_cases h : a = b <;> simp [h]⟩
section
variable {α : Type} [DecidableEq α]
def kvGet : List (α × Value) → α → Option Value
  | [], _ => none
  | p :: l, k => if k = p.1 then some p.2 else kvGet l k
def kvSet : List (α × Value) → α → Value → List (α × Value)
  | [], k, v => [(k, v)]
  | p :: l, k, v => if k = p.1 then (k, v) :: l else p :: kvSet l k v
def kvDel : List (α × Value) → α → List (α × Value)
  | [], _ => []
  | p :: l, k => if k = p.1 then l else p :: kvDel l k
def kvE (e : MapEntry) : Value × Value := (e.key, e.val)
def kvP (enc : α → Value) (p : α × Value) : Value × Value := (enc p.1, p.2)
variable {kd : TypeDesc} {enc : α → Value} (hE : KeyEnc kd enc)
include hE
theorem kv_find {k : α} : ∀ {es : List MapEntry} {kv : List (α × Value)} (i : Nat), es.map kvE = kv.map (kvP enc) →
    (kvGet kv k = none ∧ Instr.findNow kd (enc k) es i = some none ∧ kvDel kv k = kv ∧ ∀ v, kvSet kv k v = kv ++ [(k, v)]) ∨
    ∃ j v, kvGet kv k = some v ∧ Instr.findNow kd (enc k) es i = some (some (i + j, v)) ∧ (es.eraseIdx j).map kvE = (kvDel kv k).map (kvP enc) ∧
      ∀ x, (es.modify j fun e => { e with key := enc k, val := x }).map kvE = (kvSet kv k x).map (kvP enc)
  | [], [], i, _ => .inl ⟨rfl, rfl, rfl, fun _ => rfl⟩
  | [], p :: kv, i, h => by simp at h
  | e :: es, [], i, h => by simp at h
  | e :: es, p :: kv, i, h => by
    simp only [List.map_cons, List.cons.injEq] at h
    obtain ⟨h1, h2⟩ := h
    unfold kvE kvP at h1
    simp only [Prod.mk.injEq] at h1
    have hs : Instr.sameNow kd (enc k) e.key = some (decide (k = p.1)) := by rw [h1.1]; exact hE.same k p.1
    by_cases hk : k = p.1
    · right
      refine ⟨0, p.2, by simp [kvGet, hk], ?_, ?_, ?_⟩
      · simp only [Instr.findNow]
        rw [hs, decide_eq_true hk]
        simp only [h1.2, Nat.add_zero]
      · simp only [kvDel, if_pos hk, List.eraseIdx_cons_zero]
        exact h2
      · intro x
        simp only [kvSet, if_pos hk, List.modify_zero_cons, List.map_cons, h2]
        rfl
    · rcases kv_find (k := k) (i + 1) h2 with ⟨a1, a2, a3, a4⟩ | ⟨j, v, a1, a2, a3, a4⟩
      · left
        refine ⟨by simp only [kvGet, if_neg hk, a1], ?_, by simp only [kvDel, if_neg hk, a3], fun v => by simp only [kvSet, if_neg hk, a4, List.cons_append]⟩
        simp only [Instr.findNow, hs, decide_eq_false hk]
        exact a2
      · right
        refine ⟨j + 1, v, by simp only [kvGet, if_neg hk, a1], ?_, ?_, ?_⟩
        · simp only [Instr.findNow, hs, decide_eq_false hk]
          rw [a2, Nat.add_assoc, Nat.add_comm 1 j]
        · simp only [kvDel, if_neg hk, List.eraseIdx_cons_succ, List.map_cons, a3]
          congr 1
          unfold kvE kvP
          rw [h1.1, h1.2]
        · intro x
          simp only [kvSet, if_neg hk, List.modify_succ_cons, List.map_cons, a4]
          congr 1
          unfold kvE kvP
          rw [h1.1, h1.2]
end
section
variable {α : Type} [DecidableEq α]
structure BornOk (es : List MapEntry) (clock : Nat) : Prop where
  nodup : (es.map (·.born)).Nodup
  lt : ∀ e ∈ es, e.born < clock
theorem BornOk.nil : BornOk [] 0 := ⟨List.nodup_nil, by simp⟩
theorem BornOk.app {es : List MapEntry} {clock : Nat} (h : BornOk es clock) (k v : Value) : BornOk (es ++ [{ key := k, val := v, born := clock }]) (clock + 1) := by
  refine ⟨?_, fun e he => ?_⟩
  · rw [List.map_append, List.nodup_append]
    refine ⟨h.nodup, by simp, fun a ha b hb => ?_⟩
    simp only [List.map_cons, List.map_nil, List.mem_singleton] at hb
    subst hb
    obtain ⟨e, he, rfl⟩ := List.mem_map.1 ha
    have := h.lt e he
    omega
  · rcases List.mem_append.1 he with he | he
    · have := h.lt e he; omega
    · simp only [List.mem_singleton] at he
      subst he
      exact Nat.lt_succ_self _
theorem born_modify (k v : Value) : ∀ (es : List MapEntry) (j : Nat), (es.modify j fun e => { e with key := k, val := v }).map (·.born) = es.map (·.born)
  | [], j => by simp
  | e :: es, 0 => by simp
  | e :: es, j + 1 => by simp [born_modify k v es j]
theorem BornOk.mod {es : List MapEntry} {clock : Nat} (h : BornOk es clock) (k v : Value) (j : Nat) : BornOk (es.modify j fun e => { e with key := k, val := v }) clock := by
  refine ⟨by rw [born_modify]; exact h.nodup, fun e he => ?_⟩
  have : e.born ∈ (es.modify j fun e => { e with key := k, val := v }).map (·.born) := List.mem_map_of_mem he
  rw [born_modify] at this
  obtain ⟨e', he', hb⟩ := List.mem_map.1 this
  rw [← hb]
  exact h.lt e' he'
theorem BornOk.erase {es : List MapEntry} {clock : Nat} (h : BornOk es clock) (j : Nat) : BornOk (es.eraseIdx j) clock :=
  ⟨((List.eraseIdx_sublist es j).map _).nodup h.nodup, fun e he => h.lt e ((List.eraseIdx_sublist es j).mem he)⟩
def im (enc : α → Value) (m : Nat) (kv : List (α × Value)) : Asn := exA fun (x : List MapEntry × Nat) => seps [pto m (.map x.1 x.2), pur (x.1.map kvE = kv.map (kvP enc) ∧ BornOk x.1 x.2)]
variable {C : Callees} {T : FEnv} {B H : AHeap} {As : List Asn} {K : FEnv → AHeap → Prop} {d : Nat} {g : Option (Nat × Bool)} {kd : TypeDesc} {enc : α → Value} {m : Nat} {kv : List (α × Value)}
theorem S.imOpenB (h : S B H (im enc m kv :: As)) : ∃ es clock, es.map kvE = kv.map (kvP enc) ∧ BornOk es clock ∧ S B H (pto m (.map es clock) :: As) := by
  obtain ⟨⟨es, clock⟩, h⟩ := S.unex h
  have h := S.unseps h
  obtain ⟨h1, h2⟩ := S.unpur (S.up1 h)
  exact ⟨es, clock, h1.1, h1.2, h2⟩
theorem S.imOpen (h : S B H (im enc m kv :: As)) : ∃ es clock, es.map kvE = kv.map (kvP enc) ∧ S B H (pto m (.map es clock) :: As) := by
  obtain ⟨es, clock, h1, _, h2⟩ := h.imOpenB
  exact ⟨es, clock, h1, h2⟩
theorem S.imClose {es : List MapEntry} {clock : Nat} (h : S B H (pto m (.map es clock) :: As)) (he : es.map kvE = kv.map (kvP enc)) (hb : BornOk es clock) : S B H (im enc m kv :: As) :=
  S.exI (X := List MapEntry × Nat) (es, clock) (S.seps (S.up1 (S.pur ⟨he, hb⟩ h)))
theorem S.imNew (h : S B H (pto m (.map [] 0) :: As)) : S B H (im enc m [] :: As) := S.imClose h rfl .nil
variable (hE : KeyEnc kd enc)
include hE
theorem op1_lookS {z : Value} {mm x : NOpd} {k : α} (hw : wantedF g T = true) (hx : x.evF T = enc k) (hm : mm.evF T = .map (some m)) (hS : S B H (im enc m kv :: As))
    (kk : K (upd T d (.tuple ⟨[(kvGet kv k).getD z, .bool (kvGet kv k).isSome]⟩)) H) : op1 C ⟨some d, .lookup kd z mm x true, g⟩ T H K := by
  obtain ⟨es, clock, he, hS⟩ := hS.imOpen
  have hM : H.mapOf (.map (some m)) = some es := by simp only [AHeap.mapOf, hS.get]
  rcases kv_find (k := k) hE 0 he with ⟨a1, a2, _, _⟩ | ⟨j, v, a1, a2, _, _⟩
  · refine op1_lookup hw hx hm (hE.ok k) hM a2 ?_
    rw [a1] at kk
    exact kk
  · refine op1_lookup hw hx hm (hE.ok k) hM a2 ?_
    rw [a1] at kk
    exact kk
theorem op1_lookS1 {z : Value} {mm x : NOpd} {k : α} (hw : wantedF g T = true) (hx : x.evF T = enc k) (hm : mm.evF T = .map (some m)) (hS : S B H (im enc m kv :: As))
    (kk : K (upd T d ((kvGet kv k).getD z)) H) : op1 C ⟨some d, .lookup kd z mm x false, g⟩ T H K := by
  obtain ⟨es, clock, he, hS⟩ := hS.imOpen
  have hM : H.mapOf (.map (some m)) = some es := by simp only [AHeap.mapOf, hS.get]
  rcases kv_find (k := k) hE 0 he with ⟨a1, a2, _, _⟩ | ⟨j, v, a1, a2, _, _⟩
  · refine op1_lookup hw hx hm (hE.ok k) hM a2 ?_
    rw [a1] at kk
    exact kk
  · refine op1_lookup hw hx hm (hE.ok k) hM a2 ?_
    rw [a1] at kk
    exact kk
theorem chk_lookS {z : Value} {mm x : NOpd} {k : α} {Tf : FEnv} (hx : x.evF T = enc k) (hm : mm.evF T = .map (some m)) (hS : S B H (im enc m kv :: As)) (hd : Tf d = .tuple ⟨[(kvGet kv k).getD z, .bool (kvGet kv k).isSome]⟩) : chkF1 (.lookup kd z mm x true) d Tf T H := by
  obtain ⟨es, clock, he, hS⟩ := hS.imOpen
  have hM : H.mapOf (.map (some m)) = some es := by simp only [AHeap.mapOf, hS.get]
  refine ⟨H, ?_⟩
  rcases kv_find (k := k) hE 0 he with ⟨a1, a2, _, _⟩ | ⟨j, v, a1, a2, _, _⟩
  · rw [a1] at hd
    simp only [NOp.sub, eop, ev_subF, hx, hm, hE.ok k, if_true, hM, a2, Option.bind_some, Option.map_some, hd]
    rfl
  · rw [a1] at hd
    simp only [NOp.sub, eop, ev_subF, hx, hm, hE.ok k, if_true, hM, a2, Option.bind_some, Option.map_some, hd]
    rfl
theorem op1_mapS {mm x y : NOpd} {k : α} {v : Value} (hw : wantedF g T = true) (hx : x.evF T = enc k) (hy : y.evF T = v) (hm : mm.evF T = .map (some m)) (hS : S B H (im enc m kv :: As))
    (kk : ∀ H', S B H' (im enc m (kvSet kv k v) :: As) → K T H') : op1 C ⟨none, .mapupd kd mm x y, g⟩ T H K := by
  obtain ⟨es, clock, he, hb, hS⟩ := hS.imOpenB
  have hg := hS.get
  rcases kv_find (k := k) hE 0 he with ⟨_, a2, _, a4⟩ | ⟨j, w, a1, a2, _, a4⟩
  · refine op1_val (v := undef) (H' := H.set m (.map (es ++ [{ key := enc k, val := v, born := clock }]) (clock + 1))) hw ?_ (kk _ (S.imClose (hS.set _) ?_ (hb.app _ _)))
    · simp only [NOp.sub, eop, ev_subF, hx, hy, hm, hE.ok k, if_true, hg, a2]
    · rw [a4, List.map_append, List.map_append, he]
      rfl
  · refine op1_val (v := undef) (H' := H.set m (.map (es.modify (0 + j) fun e => { e with key := enc k, val := v }) clock)) hw ?_ (kk _ (S.imClose (hS.set _) ?_ (hb.mod _ _ _)))
    · simp only [NOp.sub, eop, ev_subF, hx, hy, hm, hE.ok k, if_true, hg, a2]
    · rw [Nat.zero_add]
      exact a4 v
end
theorem chk_unw {rs : List (FEnv × AHeap)} {Tf : FEnv} {o : NOper} {os : List NOper} {b : Nat} {c : List Nat} {cs : List (List Nat)} {r : Nat} {T : FEnv} {H : AHeap} (n : Nat) (hn : r + n + 1 = rs.length) (hs : rs[n]? = some (T, H)) (hw : wantedF o.guard T = false) (k : chkF rs.reverse Tf os cs (r + 1)) : chkF rs.reverse Tf (o :: os) ((b :: c) :: cs) r := by
  unfold chkF
  rw [rev_get hn hs]
  exact ⟨fun h => (by rw [hw] at h; cases h), k⟩
end Go.E
