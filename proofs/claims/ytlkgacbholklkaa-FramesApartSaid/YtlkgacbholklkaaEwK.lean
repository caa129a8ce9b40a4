/-
  THE EVALUATOR, PART K: maps, calls, the built-in functions; the theorem on operations.
-/
import Derived.Test.YtlkgacbholklkaaEwJ
import Derived.KernelRfl
import Derived.Lib.BytesEntry
set_option linter.unusedSimpArgs false
set_option linter.unusedVariables false
namespace Go.E
open Go Go.MapKept
variable {P : Program} {G : Nat} {φ : Phi} {H : AHeap} {w : World} {T : Env} {a : Act} {r : Res} {dst : Option Tmp} {type : TypeId} {pos : String} {after : Array Edge} {guard : Option (Nat × Bool)}
theorem s_lookup (hg : GOk G φ) (ht : VRs φ T a.tmps.toList) (hs : Sim φ H w) {t : TypeId} {x y : Operand} {ok : Bool} {n : NOp} (hc : cOp P G ⟨dst, .lookup t x y ok, type, pos, after, guard⟩ = some n) (h : eop n T H = some r) : OutR P φ H w a ⟨dst, .lookup t x y ok, type, pos, after, guard⟩ r := by
  simp only [cOp, Option.bind_eq_some_iff] at hc
  obtain ⟨x', hx, y', hy, hc⟩ := hc
  have rx := ev_rel hg ht hx
  have ry := ev_rel hg ht hy
  split at hc
  case h_2 => cases hc
  rename_i kt e htd
  split at hc
  case h_2 => cases hc
  rename_i d z hd hz
  split at hc
  case isFalse => cases hc
  cases hc
  simp only [eop] at h
  split at h
  case isFalse => cases h
  rename_i hok
  simp only [Option.bind_eq_some_iff, Option.map_eq_some_iff] at h
  obtain ⟨es, hes, rr, hr, rfl⟩ := h
  obtain ⟨v', h1, h2⟩ := lookup_rel (P := P) hs htd hd hz rx ry hok hes hr ok
  exact .pure hs (by simp [execOp, h1]) h2

theorem s_mapupd (hg : GOk G φ) (ht : VRs φ T a.tmps.toList) (hs : Sim φ H w) {t : TypeId} {x y z : Operand} {n : NOp} (hc : cOp P G ⟨dst, .mapUpdate t x y z, type, pos, after, guard⟩ = some n) (h : eop n T H = some r) : OutR P φ H w a ⟨dst, .mapUpdate t x y z, type, pos, after, guard⟩ r := by
  simp only [cOp, Option.bind_eq_some_iff] at hc
  obtain ⟨x', hx, y', hy, z', hz, hc⟩ := hc
  have rx := ev_rel hg ht hx
  have ry := ev_rel hg ht hy
  have rz := ev_rel hg ht hz
  split at hc
  case h_2 => cases hc
  rename_i kt e htd
  split at hc
  case h_2 => cases hc
  rename_i d hd
  split at hc
  case isFalse => cases hc
  cases hc
  simp only [eop] at h
  split at h
  case h_2 => cases h
  rename_i rb hp
  rw [hp] at rx
  split at h
  case isFalse => cases h
  rename_i hok
  split at h
  case h_2 => cases h
  rename_i es clock hgt
  generalize hax : a.eval x = ax at rx
  cases rx
  rename_i m hb
  split at h
  · rename_i i u hf
    cases h
    obtain ⟨w', h1, h2⟩ := mapUpdate_rel (P := P) hs htd hd hb ry rz hok hgt hf
    exact ⟨.skip, w', φ, undef, by simp [execOp, hax, h1], .inr ⟨rfl, rfl⟩, undefR φ, h2⟩
  · rename_i hf
    cases h
    obtain ⟨w', h1, h2⟩ := mapUpdate_rel (P := P) hs htd hd hb ry rz hok hgt hf
    exact ⟨.skip, w', φ, undef, by simp [execOp, hax, h1], .inr ⟨rfl, rfl⟩, undefR φ, h2⟩
  · cases h

theorem ERs.filter {φ : Phi} {p : Nat → Bool} : ∀ {a b : List MapEntry}, ERs φ a b → ERs φ (a.filter fun e => p e.born) (b.filter fun e => p e.born)
  | _, _, .nil => .nil
  | _, _, .cons hk hb hv h => by
    simp only [List.filter_cons, hb]
    split
    · exact .cons hk hb hv h.filter
    · exact h.filter

theorem ERs.all {φ : Phi} {p : Nat → Bool} : ∀ {a b : List MapEntry}, ERs φ a b → (b.all fun e => p e.born) = a.all fun e => p e.born
  | _, _, .nil => rfl
  | _, _, .cons hk hb hv h => by simp only [List.all_cons, hb, h.all]

theorem ERs.isEmpty {φ : Phi} {a b : List MapEntry} (h : ERs φ a b) : b.isEmpty = a.isEmpty := by cases h <;> rfl

theorem ERs.find {φ : Phi} {p : Nat → Bool} : ∀ {a b : List MapEntry}, ERs φ a b → ∀ e, (a.find? fun e => p e.born) = some e → ∃ e', (b.find? fun e => p e.born) = some e' ∧ e'.key = e.key ∧ VR φ e.val e'.val ∧ e'.born = e.born
  | _, _, .nil, e, h => by simp at h
  | _, _, .cons (e := x) hk hb hv t, e, h => by
    simp only [List.find?_cons, hb] at h ⊢
    split at h
    · cases h; exact ⟨_, rfl, hk, hv, hb⟩
    · exact t.find e h

theorem run_getObj_iter {w : World} {r : Nat} {m : Option Nat} {s : Nat} {seen : Array Nat} {c : Nat} (h : w.heap[r]? = some (.mapIter m s seen c)) : (getObj r).run P w = .ok (.mapIter m s seen c) w := by simp [getObj, Sem.run, h]

theorem next_over {w : World} {r bm since last clock : Nat} {seen : List Nat} {l : List MapEntry} {ty : TypeId} (hr : w.heap[r]? = some (.mapIter (some bm) since seen.toArray last)) (hb : w.heap[bm]? = some (.map l.toArray clock))
    (h : iterStep l since last seen = some none) : (Instr.next (.pointer (some ⟨r, 0, none⟩)) false ty).run P w = .ok (.tuple #[.bool false]) w := by
  unfold iterStep at h
  split at h
  case isTrue => cases h
  rename_i hc
  have hc' : (!seen.toArray.isEmpty && !l.toArray.isEmpty && l.toArray.all (fun e => decide (e.born ≥ last))) = false := by
    have : (!seen.isEmpty && !l.isEmpty && l.all (fun e => decide (e.born ≥ last))) = false := Bool.eq_false_iff.2 hc
    simpa using this
  split at h
  · rename_i hl
    have hl' : l.toArray.filter (fun e => !seen.toArray.contains e.born) = #[] := by
      have := congrArg List.toArray hl
      simpa using this
    simp only [Instr.next, Sem.run_bind, run_getObj_iter hr, MapKept.run_getObj_map hb, Result.andThen_ok, hc', Bool.false_eq_true, if_false, hl']
    simp [choose, Sem.run, Question.forced]
  · split at h <;> cases h
  · cases h

theorem next_one {w : World} {r bm since last clock : Nat} {seen : List Nat} {l : List MapEntry} {ty : TypeId} {e : MapEntry} (hr : w.heap[r]? = some (.mapIter (some bm) since seen.toArray last)) (hb : w.heap[bm]? = some (.map l.toArray clock))
    (h : iterStep l since last seen = some (some e)) : (Instr.next (.pointer (some ⟨r, 0, none⟩)) false ty).run P w = .ok (.tuple #[.bool true, e.key, e.val]) { w with heap := w.heap.setIfInBounds r (.mapIter (some bm) since (seen ++ [e.born]).toArray clock) } := by
  unfold iterStep at h
  split at h
  case isTrue => cases h
  rename_i hc
  have hc' : (!seen.toArray.isEmpty && !l.toArray.isEmpty && l.toArray.all (fun e => decide (e.born ≥ last))) = false := by
    have : (!seen.isEmpty && !l.isEmpty && l.all (fun e => decide (e.born ≥ last))) = false := Bool.eq_false_iff.2 hc
    simpa using this
  split at h
  · cases h
  · rename_i x hl
    split at h
    case isFalse => cases h
    rename_i hlt
    cases h
    have hl' : l.toArray.filter (fun e => !seen.toArray.contains e.born) = #[e] := by
      have := congrArg List.toArray hl
      simpa using this
    have hge : ¬ e.born ≥ since := by omega
    simp only [Instr.next, Sem.run_bind, run_getObj_iter hr, MapKept.run_getObj_map hb, Result.andThen_ok, hc', Bool.false_eq_true, if_false, hl']
    simp [choose, Sem.run, Question.forced, hlt, hge, setObj, hr]
  · cases h

theorem iterStep_rel {φ : Phi} {es es' : List MapEntry} (h : ERs φ es es') (since last : Nat) (seen : List Nat) :
    (iterStep es since last seen = some none → iterStep es' since last seen = some none) ∧ ∀ e, iterStep es since last seen = some (some e) → ∃ e', iterStep es' since last seen = some (some e') ∧ e'.key = e.key ∧ e'.born = e.born ∧ VR φ e.val e'.val := by
  have h1 := h.all (p := fun b => decide (b ≥ last))
  have h2 := h.filter (p := fun b => !seen.contains b)
  unfold iterStep
  rw [h.isEmpty, h1]
  split
  · exact ⟨fun h => (by cases h), fun e h => (by cases h)⟩
  · generalize (es.filter fun e => !seen.contains e.born) = A at h2
    generalize (es'.filter fun e => !seen.contains e.born) = B at h2
    cases h2 with
    | nil => exact ⟨fun _ => rfl, fun e h => (by cases h)⟩
    | cons hk hb hv t =>
      cases t with
      | nil =>
        simp only [hb]
        split
        · exact ⟨fun h => (by cases h), fun e h => (by cases h; exact ⟨_, rfl, hk, hb, hv⟩)⟩
        · exact ⟨fun h => (by cases h), fun e h => (by cases h)⟩
      | cons => exact ⟨fun h => (by cases h), fun e h => (by cases h)⟩


theorem s_range (hg : GOk G φ) (ht : VRs φ T a.tmps.toList) (hs : Sim φ H w) {t : TypeId} {x : Operand} {n : NOp} (hc : cOp P G ⟨dst, .range t x, type, pos, after, guard⟩ = some n) (h : eop n T H = some r) : OutR P φ H w a ⟨dst, .range t x, type, pos, after, guard⟩ r := by
  simp only [cOp] at hc
  split at hc
  case h_3 => cases hc
  case h_2 =>
    rename_i htd
    simp only [Option.map_eq_some_iff] at hc
    obtain ⟨x', hx, rfl⟩ := hc
    have rx := ev_rel hg ht hx
    simp only [eop] at h
    split at h
    case h_2 => cases h
    rename_i s hp
    cases h
    rw [hp] at rx
    generalize hax : a.eval x = ax at rx
    cases rx
    refine OutR.ofAlloc (v := fun b => .pointer (some ⟨b, 0, none⟩)) hs ⟨⟨w.heap.size, 0, 0, 0, 0⟩, .stringIter s 0, .pointer (some ⟨w.heap.size, 0, none⟩), rfl, by simp [execOp, hax, Instr.range, run_underlying htd], fun b ψ _ hb => ⟨⟨rfl, heap_alloc_new w _⟩, ?_⟩⟩
    simpa using VR.ptr (φ := ψ) 0 hb
  rename_i kt e htd
  simp only [Option.map_eq_some_iff] at hc
  obtain ⟨x', hx, rfl⟩ := hc
  have rx := ev_rel hg ht hx
  simp only [eop] at h
  split at h
  · rename_i hp
    cases h
    rw [hp] at rx
    generalize hax : a.eval x = ax at rx
    cases rx
    refine OutR.ofAlloc (v := fun b => .pointer (some ⟨b, 0, none⟩)) hs ⟨⟨w.heap.size, 0, 0, 0, 0⟩, .mapIter none 0 #[] 0, .pointer (some ⟨w.heap.size, 0, none⟩), rfl, by simp [execOp, hax, Instr.range, run_underlying htd], fun b ψ _ hb => ⟨⟨rfl, none, heap_alloc_new w _, .mapNil⟩, ?_⟩⟩
    simpa using VR.ptr (φ := ψ) 0 hb
  · rename_i m hp
    split at h
    case h_2 => cases h
    rename_i es clock hgt
    cases h
    rw [hp] at rx
    generalize hax : a.eval x = ax at rx
    cases rx
    rename_i mb hmb
    have ho := hs.obj _ _ hmb
    rw [hgt] at ho
    obtain ⟨es', h1, h2⟩ := ho
    refine OutR.ofAlloc (v := fun b => .pointer (some ⟨b, 0, none⟩)) hs ⟨⟨w.heap.size, 0, 0, 0, 0⟩, .mapIter (some mb.blk) clock #[] clock, .pointer (some ⟨w.heap.size, 0, none⟩), rfl, by simp [execOp, hax, Instr.range, run_underlying htd, MapKept.run_getObj_map h1], fun b ψ hle hb => ⟨⟨rfl, some mb.blk, heap_alloc_new w _, .map (hle _ _ hmb)⟩, ?_⟩⟩
    simpa using VR.ptr (φ := ψ) 0 hb
  · cases h

theorem s_next (hg : GOk G φ) (ht : VRs φ T a.tmps.toList) (hs : Sim φ H w) {x : Operand} {s : Bool} {n : NOp} (hc : cOp P G ⟨dst, .next x s, type, pos, after, guard⟩ = some n) (h : eop n T H = some r) : OutR P φ H w a ⟨dst, .next x s, type, pos, after, guard⟩ r := by
  simp only [cOp, Option.map_eq_some_iff] at hc
  obtain ⟨x', hx, rfl⟩ := hc
  have rx := ev_rel hg ht hx
  cases s
  case true =>
    simp only [if_true, eop] at h
    split at h
    case h_2 => cases h
    rename_i p hp
    rw [hp] at rx
    split at h
    case isFalse => cases h
    rename_i hoff
    generalize hax : a.eval x = ax at rx
    obtain ⟨bp, op, sp⟩ := p
    simp only at hoff
    subst hoff
    cases rx
    rename_i m hb
    have ho := hs.obj _ _ hb
    split at h
    case h_2 => cases h
    rename_i s pos hgt
    rw [hgt] at ho
    obtain ⟨hsh, h1⟩ := ho
    have hget : (getObj m.blk).run P w = .ok (.stringIter s pos) w := by simp [getObj, Sem.run, h1]
    split at h
    · rename_i hlt
      cases h
      have hlt' : m.blk < w.heap.size := (Array.getElem?_eq_some_iff.1 h1).1
      refine ⟨.value (.tuple #[.bool true, .int .i64 pos, .int .i32 (Utf8.decode s pos).1]), { w with heap := w.heap.setIfInBounds m.blk (.stringIter s (pos + (Utf8.decode s pos).2)) }, φ, _, ?_, .inl rfl, .tuple (.cons (.bool _) (.cons (.int _ _) (.cons (.int _ _) .nil))), Stp.put (m := m) hs hb (by rw [hgt]; rfl) rfl ⟨hsh, by simp [Array.getElem?_setIfInBounds, hlt']⟩ rfl rfl rfl (by simp) (fun k hk => Array.getElem?_setIfInBounds_ne (Ne.symm hk))⟩
      simp [execOp, hax, hsh, Instr.next, hget, hlt, setObj, Sem.run, h1, goInt]
    · rename_i hlt
      cases h
      refine .pure (v' := .tuple #[.bool false]) hs ?_ (.tuple (.cons (.bool _) .nil))
      simp [execOp, hax, hsh, Instr.next, hget, hlt]
  simp only [Bool.false_eq_true, if_false, eop] at h
  split at h
  case h_2 => cases h
  rename_i p hp
  rw [hp] at rx
  split at h
  case isFalse => cases h
  rename_i hoff
  generalize hax : a.eval x = ax at rx
  obtain ⟨bp, op, sp⟩ := p
  simp only at hoff
  subst hoff
  cases rx
  rename_i m hb
  have ho := hs.obj _ _ hb
  split at h
  · rename_i since seen last hgt
    rw [hgt] at ho
    obtain ⟨hsh, mp', h1, h2⟩ := ho
    cases h2
    cases h
    refine .pure (v' := .tuple #[.bool false]) hs ?_ (.tuple (.cons (.bool _) .nil))
    simp [execOp, hax, hsh, Instr.next, run_getObj_iter h1]
  · rename_i mm since seen last hgt
    rw [hgt] at ho
    obtain ⟨hsh, mp', h1, h2⟩ := ho
    cases h2
    rename_i mb hmb
    split at h
    case h_2 => cases h
    rename_i es clock hgm
    have hom := hs.obj _ _ hmb
    rw [hgm] at hom
    obtain ⟨es', h3, h4⟩ := hom
    obtain ⟨es'⟩ := es'
    obtain ⟨k1, k2⟩ := iterStep_rel h4 since last seen
    split at h
    · rename_i hst
      cases h
      refine .pure (v' := .tuple #[.bool false]) hs ?_ (.tuple (.cons (.bool _) .nil))
      have := next_over (P := P) (ty := type) h1 h3 (k1 hst)
      simp [execOp, hax, hsh, this]
    · rename_i e hst
      split at h
      case isFalse => cases h
      rename_i hclk
      cases h
      obtain ⟨e', g1, g2, g3, g4⟩ := k2 e hst
      have hrun := next_one (P := P) (ty := type) h1 h3 g1
      have hlt : m.blk < w.heap.size := (Array.getElem?_eq_some_iff.1 h1).1
      have hne : mb.blk ≠ m.blk := by intro e; rw [e, h1] at h3; cases h3
      refine ⟨.value (.tuple #[.bool true, e'.key, e'.val]), { w with heap := w.heap.setIfInBounds m.blk (.mapIter (some mb.blk) since (seen ++ [e'.born]).toArray clock) }, φ, .tuple #[.bool true, e'.key, e'.val], by simp [execOp, hax, hsh, hrun], .inl rfl, ?_, Stp.put (m := m) hs hb (by rw [hgt]; rfl) rfl ?_ rfl rfl rfl (by simp) (fun k hk => Array.getElem?_setIfInBounds_ne (Ne.symm hk))⟩
      · refine .tuple (.cons (.bool _) (.cons ?_ (.cons g4 .nil)))
        rw [g2]; exact closedV_rel φ _ hclk
      · exact ⟨hsh, some mb.blk, by rw [g3]; simp [Array.getElem?_setIfInBounds, hlt], .map hmb⟩
    · cases h
  · cases h

theorem s_entry (hg : GOk G φ) (ht : VRs φ T a.tmps.toList) (hs : Sim φ H w) {x : Operand} {n : NOp} (hc : cOp P G ⟨dst, .entry x, type, pos, after, guard⟩ = some n) (h : eop n T H = some r) : OutR P φ H w a ⟨dst, .entry x, type, pos, after, guard⟩ r := by
  simp only [cOp, Option.map_eq_some_iff] at hc
  obtain ⟨x', hx, rfl⟩ := hc
  have rx := ev_rel hg ht hx
  simp only [eop] at h
  split at h
  case h_2 => cases h
  rename_i p hp
  rw [hp] at rx
  split at h
  case isFalse => cases h
  rename_i hoff
  generalize hax : a.eval x = ax at rx
  obtain ⟨bp, op, sp⟩ := p
  simp only at hoff
  subst hoff
  cases rx
  rename_i m hb
  have ho := hs.obj _ _ hb
  split at h
  case h_2 => cases h
  rename_i mm since seen last hgt
  rw [hgt] at ho
  obtain ⟨hsh, mp', h1, h2⟩ := ho
  cases h2
  rename_i mb hmb
  split at h
  case h_2 => cases h
  rename_i es clock stamp hgm hlast
  have hom := hs.obj _ _ hmb
  rw [hgm] at hom
  obtain ⟨es', h3, h4⟩ := hom
  obtain ⟨es'⟩ := es'
  split at h
  case isFalse => cases h
  rename_i hcl
  subst hcl
  simp only [Option.bind_eq_some_iff] at h
  obtain ⟨e, hf, h⟩ := h
  split at h
  case isFalse => cases h
  rename_i hclk
  cases h
  obtain ⟨e', g1, g2, g3, _⟩ := h4.find (p := fun b => b == stamp) e hf
  refine .pure (v' := .tuple #[e'.key, e'.val]) hs ?_ (.tuple (.cons (by rw [g2]; exact closedV_rel φ _ hclk) (.cons g3 .nil)))
  have hbk : seen.toArray.back? = some stamp := by simpa using hlast
  have hfa : (List.toArray es').find? (fun x => x.born == stamp) = some e' := by simpa using g1
  simp [execOp, hax, hsh, Instr.entry, run_getObj_iter h1, MapKept.run_getObj_map h3, hlast, g1]

theorem s_s2ap (hg : GOk G φ) (ht : VRs φ T a.tmps.toList) (hs : Sim φ H w) {t : TypeId} {x : Operand} {n : NOp} (hc : cOp P G ⟨dst, .sliceToArrayPointer t x, type, pos, after, guard⟩ = some n) (h : eop n T H = some r) : OutR P φ H w a ⟨dst, .sliceToArrayPointer t x, type, pos, after, guard⟩ r := by
  simp only [cOp] at hc
  split at hc
  case h_2 => cases hc
  rename_i k e htd
  simp only [Option.map_eq_some_iff] at hc
  obtain ⟨x', hx, rfl⟩ := hc
  have rx := ev_rel hg ht hx
  simp only [eop] at h
  split at h
  case h_2 => cases h
  rename_i p l c hp
  rw [hp] at rx
  split at h
  case isFalse => cases h
  rename_i hl
  cases h
  generalize hax : a.eval x = ax at rx
  cases rx
  · omega
  · refine .pure hs ?_ (.ptr _ (by assumption))
    have : ¬ l < k := by omega
    simp [execOp, hax, Instr.arrayAt, run_underlying htd, this]

theorem wrap_small {n : Int} (h0 : 0 ≤ n) (h1 : n ≤ 2147483648) : IntKind.i64.wrap n = n := by
  rw [IntKind.wrap_i64]; omega

theorem srcZero {t u ty e : TypeId} {kn k : IntKind} (ht : P.underlying t = some (.slice e)) (hu : P.underlying u = some (.int kn)) {i : TypeInfo} (hi : P.info? e = some i) {zv : Value} (hz : i.zero = some zv) (hzl : zv.cells.size = i.size) (hpos : 0 < i.size)
    (hb0 : 0 < i.bytes) (hb1 : i.bytes ≤ 65536) {n : Int} (h0 : 0 ≤ n) (h1 : n ≤ 2147483648) (w : World) :
    SrcRun P t u ty e i.size zv n.toNat (.int k n) (Builtin.zeroCells zv.cells n.toNat).toList w := by
  have hw := wrap_small h0 h1
  have hneg : ¬ n < 0 := by omega
  have h48 : ¬ (281474976710656 < n * (i.bytes : Int)) := by
    have hb : (i.bytes : Int) ≤ 65536 := by omega
    have := Int.mul_le_mul h1 hb (by omega) (by omega)
    omega
  have hzv : (Sem.run P (zeroValue e) : World → _) = fun w => .ok zv w := by funext w; simp [zeroValue, typeInfo, hi, hz]
  by_cases hns : n.toNat * i.size = 0
  · have h00 : n.toNat = 0 := by
      rcases Nat.mul_eq_zero.1 hns with h | h <;> omega
    have hz0 : (Builtin.zeroCells zv.cells n.toNat) = #[] := Array.eq_empty_of_size_eq_zero (by rw [zeroCells_size, hzl, hns])
    constructor
    · intro base l c w' hroom hst hn
      rw [hz0] at hst
      cases base with
      | none =>
        have := hn rfl; subst this
        simp [Builtin.append_, run_underlying ht, run_underlying hu, sizeOf, typeInfo, hi, asInt, asIntOf, hw, hneg, h48, hroom, hns]
      | some a =>
        have := hst a rfl
        simp at this
        simp [Builtin.append_, run_underlying ht, run_underlying hu, sizeOf, typeInfo, hi, asInt, asIntOf, hw, hneg, h48, hroom, hns, this]
    · intro base l c olds hroom hlim hfo
      have h63' : ¬ (9223372036854775807 < ((l : Int) + max n 0)) := by unfold limit at hlim; omega
      have hfit : Builtin.nextslicecap (l + n.toNat) c * i.bytes ≤ 281474976710656 := growslice_fits (by omega) (by
        have := Nat.mul_le_mul hlim hb1
        unfold limit at this
        omega)
      have h48' : ¬ (281474976710656 < Builtin.nextslicecap (l + n.toNat) c * i.bytes) := by omega
      rw [hz0]
      simp [Builtin.append_, run_underlying ht, run_underlying hu, sizeOf, typeInfo, hi, asInt, asIntOf, hw, hneg, h48, hroom, h63', h48', Question.forced, hfo, hns, newRow, grownCap, zeroValue, hz]
      congr 2
      apply Array.ext'
      simp
  · constructor
    · intro base l c w' hroom hst hn
      cases base with
      | none =>
        have := hn rfl; subst this
        simp [Builtin.append_, run_underlying ht, run_underlying hu, sizeOf, typeInfo, hi, asInt, asIntOf, hw, hneg, h48, hroom, hns, hzv]
      | some a =>
        have := hst a rfl
        simp [Builtin.append_, run_underlying ht, run_underlying hu, sizeOf, typeInfo, hi, asInt, asIntOf, hw, hneg, h48, hroom, hns, hzv, this]
    · intro base l c olds hroom hlim hfo
      have h63' : ¬ (9223372036854775807 < ((l : Int) + max n 0)) := by unfold limit at hlim; omega
      have hfit : Builtin.nextslicecap (l + n.toNat) c * i.bytes ≤ 281474976710656 := growslice_fits (by omega) (by
        have := Nat.mul_le_mul hlim hb1
        unfold limit at this
        omega)
      have h48' : ¬ (281474976710656 < Builtin.nextslicecap (l + n.toNat) c * i.bytes) := by omega
      simp [Builtin.append_, run_underlying ht, run_underlying hu, sizeOf, typeInfo, hi, asInt, asIntOf, hw, hneg, h48, hroom, h63', h48', Question.forced, hfo, hns, newRow, grownCap, zeroValue, hz]
      congr 2
      apply Array.ext'
      simp

theorem appendZ_rel {φ : Phi} {H H' : AHeap} {w : World} (hs : Sim φ H w) {t u ty e : TypeId} {kn : IntKind} (ht : P.underlying t = some (.slice e)) (hu : P.underlying u = some (.int kn))
    {z : List Value} {es by_ : Nat} (hz : zeroInfo P e = some (z, es, by_)) {s s' x x' v : Value} (hS : VR φ s s') (hX : VR φ x x') (h : H.appendZ es z s x = some (v, H')) :
    ∃ v' w' φ', (Builtin.append_ #[t, u] ty #[s', x']).run P w = .ok v' w' ∧ VR φ' v v' ∧ Stp φ H w φ' H' w' := by
  obtain ⟨i0, zv0, hi0, hzv0, hz1, hz2, hz3, hcl, hzl, hpos, hb0, hb1, hone⟩ := zeroInfo_spec hz
  unfold AHeap.appendZ at h
  split at h
  case h_2 => cases h
  rename_i base l c k n
  split at h
  case isFalse => cases h
  rename_i hn
  obtain ⟨hn0, hn1⟩ := hn
  cases hX
  subst hz2
  subst hz3
  have hn1 : n ≤ 2147483648 := by unfold limit at hn1; omega
  have hsz : zv0.cells.size = i0.size := by
    have : (cellsL zv0).length = i0.size := by rw [hz1]; exact hzl
    simpa [cellsL] using this
  have hsrc := fun w => srcZero (P := P) (t := t) (ty := ty) (k := k) ht hu hi0 hzv0 hsz (by omega) hb0 hb1 hn0 hn1 w
  have heq : (Builtin.zeroCells zv0.cells n.toNat).toList = zeroOf z n.toNat := by
    rw [← hz1]; exact zeroCells_eq zv0 n.toNat (by rw [hz1]; omega)
  refine appendK_rel hs hz (zv := zv0) (by simp [hi0, hzv0]) hS (fun hk0 => ?_) (fun xs hx => ?_) h
  · have := hsrc w
    rw [heq, hk0] at this
    rw [hk0]
    simpa [zeroOf] using this
  · cases hx
    refine ⟨zeroOf z n.toNat, zeroOf_rel (closedVs_rel φ _ hcl) n.toNat, ?_, zeroOf_one hone n.toNat, ?_⟩
    · have := congrArg List.length heq
      rw [Array.length_toList, zeroCells_size, hsz] at this
      exact this.symm
    · rw [← heq]; exact hsrc w

theorem s_extract (hg : GOk G φ) (ht : VRs φ T a.tmps.toList) (hs : Sim φ H w) {x : Operand} {i : Nat} {n : NOp} (hc : cOp P G ⟨dst, .extract x i, type, pos, after, guard⟩ = some n) (h : eop n T H = some r) : OutR P φ H w a ⟨dst, .extract x i, type, pos, after, guard⟩ r := by
  simp only [cOp, Option.map_eq_some_iff] at hc
  obtain ⟨x', hx, rfl⟩ := hc
  have rx := ev_rel hg ht hx
  simp only [eop] at h
  split at h
  case h_2 => cases h
  rename_i vs hp
  rw [hp] at rx
  simp only [Option.map_eq_some_iff] at h
  obtain ⟨v, hv, rfl⟩ := h
  generalize hax : a.eval x = ax at rx
  cases rx
  rename_i xs xs' hxs
  obtain ⟨v', h1, h2⟩ := hxs.get i v hv
  refine .pure hs (v' := v') ?_ h2
  simp [execOp, hax, Instr.extract, h1]

theorem find_ixs {fn : Func} (h : fn.name = "internal/bytealg.IndexByteString") : Extern.find fn = some Extern.BytealgIndexByte.indexByte := by
  unfold Extern.find
  rw [h]
  kernel_rfl

theorem findNext_ixs {fn : Func} (h : fn.name = "internal/bytealg.IndexByteString") (h2 : fn.origin = "") : Extern.findNext fn = none := by
  unfold Extern.findNext
  rw [h, h2]
  kernel_rfl

theorem extBK_spec {P : Program} {f : Operand} {cnt : Bool} (h : extBK P f = some cnt) : ∃ i fn, f = .func i ∧ P.funcs[i]? = some fn ∧ fn.body = none ∧ fn.name ≠ "runtime.NumGoroutine" ∧ Extern.findNext fn = none ∧ Extern.find fn = some (if cnt = true then Extern.BytealgCount.count else Extern.BytealgIndexByte.indexByte) := by
  unfold extBK at h
  split at h
  case h_2 => cases h
  rename_i i
  split at h
  case h_2 => cases h
  rename_i fn hfn
  split at h
  case isFalse => cases h
  rename_i hb
  simp only [Bool.and_eq_true, beq_iff_eq] at hb
  obtain ⟨hb, horig⟩ := hb
  have hb2 : fn.body = none := by simpa using hb
  refine ⟨i, fn, rfl, hfn, hb2, ?_⟩
  split at h
  · rename_i hn
    cases h
    have hn : fn.name = "internal/bytealg.IndexByte" := by simpa using hn
    exact ⟨by rw [hn]; decide, by unfold Extern.findNext; rw [hn, horig]; kernel_rfl, by unfold Extern.find; rw [hn]; kernel_rfl⟩
  split at h
  · rename_i hn
    cases h
    have hn : fn.name = "internal/bytealg.Count" := by simpa using hn
    exact ⟨by rw [hn]; decide, by unfold Extern.findNext; rw [hn, horig]; kernel_rfl, by unfold Extern.find; rw [hn]; kernel_rfl⟩
  split at h
  · rename_i hn
    cases h
    have hn : fn.name = "internal/bytealg.CountString" := by simpa using hn
    exact ⟨by rw [hn]; decide, by unfold Extern.findNext; rw [hn, horig]; kernel_rfl, by unfold Extern.find; rw [hn]; kernel_rfl⟩
  · cases h

theorem bytesV_rel {φ : Phi} {H : AHeap} {w : World} (hs : Sim φ H w) {x x' : Value} {bs : List UInt8} (hx : VR φ x x')
    (h : bytesV H x = some bs) : (Extern.Bytes.bytesOf x').run P w = .ok ⟨bs.toArray⟩ w := by
  cases hx <;> simp only [bytesV] at h <;> first | cases h | skip
  case str s => rfl
  case slNil => rfl
  case slEmpty b m o a' hb => rfl
  case sl b m o l c c' hb hl hc =>
    simp only [Option.bind_eq_some_iff] at h
    obtain ⟨cs, h1, h2⟩ := h
    obtain ⟨ns, rfl, rfl⟩ := toBytes_spec h2
    split at h1
    · rename_i h0
      subst h0
      cases ns with
      | nil => rfl
      | cons a b => simp at h1
    · obtain ⟨cs', g1, g2, g3, g5, g4⟩ := row_sim hs hb h1
      have := plains_eq g1 (by intro v hv; simp at hv; obtain ⟨a, _, rfl⟩ := hv; rfl)
      subst this
      have hln : ns.length = l := by simpa using g2
      have := Go.Lib.run_loadBytesX (P := P) w ns ⟨m.blk, m.sh + o, none⟩ .empty (fun j x hj => by
        rw [addA]
        exact g4 j _ (by rw [List.getElem?_map, hj]; rfl))
      rw [hln] at this
      simp only [Extern.Bytes.bytesOf, this]
      congr 1
      apply ByteArray.ext
      show (#[] : Array UInt8) ++ _ = _
      simp [Go.Lib.bytesOf]

theorem run_extB {w : World} {x' : Value} {bs : List UInt8} (h : (Extern.Bytes.bytesOf x').run P w = .ok ⟨bs.toArray⟩ w) (cnt : Bool) (c : Int) :
    ((if cnt = true then Extern.BytealgCount.count else Extern.BytealgIndexByte.indexByte) #[x', .int .u8 c]).run P w = .ok (.int .i64 (if cnt = true then (Go.Lib.countByte bs c.toNat.toUInt8 : Int) else Go.Lib.indexByte bs c.toNat.toUInt8)) w := by
  cases cnt
  · have hs := Go.Lib.run_indexByteString (P := P) ⟨bs.toArray⟩ c w
    simp only [Bool.false_eq_true, if_false]
    change Sem.run P (do
      let b ← Extern.Bytes.bytesOf x'
      let c ← Extern.Bytes.asByte (.int .u8 c)
      match (List.range b.size).find? fun i => b[i]! == c with
      | some i => pure (goInt i)
      | none => pure (goInt (-1))) w = _
    change Sem.run P (do
      let b ← Extern.Bytes.bytesOf (.string ⟨bs.toArray⟩)
      let c ← Extern.Bytes.asByte (.int .u8 c)
      match (List.range b.size).find? fun i => b[i]! == c with
      | some i => pure (goInt i)
      | none => pure (goInt (-1))) w = _ at hs
    simp only [Extern.Bytes.bytesOf, Sem.run_bind, Sem.run_pure, Result.andThen] at hs
    simp only [Sem.run_bind, h, Result.andThen]
    exact hs
  · have hs := Go.Lib.run_countString (P := P) ⟨bs.toArray⟩ c w
    simp only [if_true]
    change Sem.run P (do
      let b ← Extern.Bytes.bytesOf x'
      let c' ← Extern.Bytes.asByte (.int .u8 c)
      pure (goInt (b.foldl (fun n x => if x == c' then n + 1 else n) (0 : Nat)))) w = _
    change Sem.run P (do
      let b ← Extern.Bytes.bytesOf (.string ⟨bs.toArray⟩)
      let c' ← Extern.Bytes.asByte (.int .u8 c)
      pure (goInt (b.foldl (fun n x => if x == c' then n + 1 else n) (0 : Nat)))) w = _ at hs
    simp only [Extern.Bytes.bytesOf, Sem.run_bind, Sem.run_pure, Result.andThen] at hs
    simp only [Sem.run_bind, h, Result.andThen]
    exact hs

theorem s_call (hg : GOk G φ) (ht : VRs φ T a.tmps.toList) (hs : Sim φ H w) {f : Operand} {args : Array Operand} {ts : Array TypeId} {n : NOp}
    (hc : cOp P G ⟨dst, .call { callee := .value f, args, argTypes := ts }, type, pos, after, guard⟩ = some n) (h : eop n T H = some r) : OutR P φ H w a ⟨dst, .call { callee := .value f, args, argTypes := ts }, type, pos, after, guard⟩ r := by
  simp only [cOp] at hc
  split at hc
  case isTrue =>
    rename_i hext
    split at hc
    case h_2 => cases hc
    rename_i x y hargs
    simp only [Option.bind_eq_some_iff, Option.some.injEq] at hc
    obtain ⟨x', hx, y', hy, rfl⟩ := hc
    have rx := ev_rel hg ht hx
    have ry := ev_rel hg ht hy
    simp only [eop] at h
    split at h
    case h_2 => cases h
    rename_i s c hp1 hp2
    cases h
    rw [hp1] at rx
    rw [hp2] at ry
    have hargs' : args = #[x, y] := by rw [← Array.toArray_toList (xs := args), hargs]
    subst hargs'
    generalize hax : a.eval x = ax at rx
    generalize hay : a.eval y = ay at ry
    cases rx
    cases ry
    unfold extIx at hext
    split at hext
    case h_2 => cases hext
    rename_i i
    split at hext
    case h_2 => cases hext
    rename_i fn hfn
    simp only [Bool.and_eq_true, beq_iff_eq] at hext
    obtain ⟨⟨hb, hname⟩, horig⟩ := hext
    have h1 := findNext_ixs hname horig
    have h2 := find_ixs hname
    refine .pure hs ?_ (.int _ _)
    have hfv : a.eval (.func i) = .func (.func i) #[] #[] := rfl
    have hnm : fn.name ≠ "runtime.NumGoroutine" := by rw [hname]; decide
    have hb2 : fn.body = none := by simpa using hb
    simp [execOp, resolve, hax, hay, hfv, Deferred.ofValue, invoke, callFunc, hfn, hnm, hb2, h1, h2, Go.Lib.run_indexByteString]
  split at hc
  · rename_i cnt hK
    split at hc
    case h_2 => cases hc
    rename_i x y hargs
    simp only [Option.bind_eq_some_iff, Option.some.injEq] at hc
    obtain ⟨x', hx, y', hy, rfl⟩ := hc
    have rx := ev_rel hg ht hx
    have ry := ev_rel hg ht hy
    simp only [eop] at h
    split at h
    case h_2 => cases h
    rename_i bs c hp1 hp2
    cases h
    rw [hp2] at ry
    have hargs' : args = #[x, y] := by rw [← Array.toArray_toList (xs := args), hargs]
    subst hargs'
    have hb := bytesV_rel (P := P) hs rx hp1
    generalize hax : a.eval x = ax at hb
    generalize hay : a.eval y = ay at ry
    cases ry
    obtain ⟨i, fn, rfl, hfn, hb2, hnm, h1, h2⟩ := extBK_spec hK
    refine .pure hs ?_ (.int _ _)
    have hfv : a.eval (.func i) = .func (.func i) #[] #[] := rfl
    simp [execOp, resolve, hax, hay, hfv, Deferred.ofValue, invoke, callFunc, hfn, hnm, hb2, h1, h2, run_extB hb]
  simp only [Option.bind_eq_some_iff, Option.map_eq_some_iff] at hc
  obtain ⟨f', hf, as, hargs, rfl⟩ := hc
  have rf := ev_rel hg ht hf
  have ras := evs_rel hg ht hargs
  simp only [eop] at h
  split at h
  case h_3 => cases h
  case h_2 =>
    rename_i b hp
    rw [hp] at rf
    cases h
    generalize hax : a.eval f = ax at rf
    cases rf
    rename_i m hb
    refine ⟨rfl, _, m, ras, hb, ?_⟩
    have e : (args.toList.map a.eval).toArray = args.map a.eval := by rw [← Array.toList_map]
    rw [e]
    simp [execOp, resolve, hax, Deferred.ofValue, invoke]
  rename_i fn u v hp
  rw [hp] at rf
  cases h
  generalize hax : a.eval f = ax at rf
  cases rf
  rename_i xs xs' ys ys' h1 h2
  refine ⟨rfl, _, (h1.append ras).append h2, fun g hfn hb hnm => ?_⟩
  simp [execOp, resolve, hax, Deferred.ofValue, invoke, callFunc, hfn, hnm, hb]
  cases hbd : g.body with
  | none => rw [hbd] at hb; cases hb
  | some c =>
    simp [List.append_toArray]

theorem run_call_builtin {b : Builtin} {args : Array Operand} {ts : Array TypeId} : (execOp a.eval ⟨dst, .call { callee := .builtin b, args, argTypes := ts }, type, pos, after, guard⟩).run P w = (builtin b ts type (args.map fun | .const _ => true | _ => false) (args.map a.eval)).run P w := by
  simp [execOp, resolve, invoke]
  rfl

theorem s_builtin (hg : GOk G φ) (ht : VRs φ T a.tmps.toList) (hs : Sim φ H w) {b : Builtin} {args : Array Operand} {ts : Array TypeId} {n : NOp}
    (hc : cOp P G ⟨dst, .call { callee := .builtin b, args, argTypes := ts }, type, pos, after, guard⟩ = some n) (h : eop n T H = some r) : OutR P φ H w a ⟨dst, .call { callee := .builtin b, args, argTypes := ts }, type, pos, after, guard⟩ r := by
  have hval : ∀ {s : Sem Value} {v' : Value} {w' : World}, (builtin b ts type (args.map fun | .const _ => true | _ => false) (args.map a.eval)) = (do pure (.value (← s))) → s.run P w = .ok v' w' →
      (execOp a.eval ⟨dst, .call { callee := .builtin b, args, argTypes := ts }, type, pos, after, guard⟩).run P w = .ok (.value v') w' := by
    intro s v' w' h1 h2
    rw [run_call_builtin, h1]
    simp [h2]
  simp only [cOp] at hc
  unfold cBuiltin at hc
  split at hc
  · -- append
    rename_i t u s x hts has
    have hts' : ts = #[t, u] := by rw [← Array.toArray_toList (xs := ts), hts]
    have has' : args = #[s, x] := by rw [← Array.toArray_toList (xs := args), has]
    subst hts'; subst has'
    have key : (∃ e, P.underlying t = some (.slice e) ∧ ((∃ f, P.underlying u = some (.slice f)) ∨ P.underlying u = some .string) ∧ ((zeroInfo P e).bind fun (_, es, by_) => (cOpd G s).bind fun s => (cOpd G x).bind fun x => some (NOp.append es by_ s x)) = some n) ∨
        (∃ e k, P.underlying t = some (.slice e) ∧ P.underlying u = some (.int k) ∧ ((zeroInfo P e).bind fun (z, es, _) => (cOpd G s).bind fun s => (cOpd G x).bind fun x => some (NOp.appendZ es z s x)) = some n) := by
      split at hc
      · rename_i e f h1 h2; exact .inl ⟨e, h1, .inl ⟨f, h2⟩, hc⟩
      · rename_i e h1 h2; exact .inl ⟨e, h1, .inr h2, hc⟩
      · rename_i e k h1 h2; exact .inr ⟨e, k, h1, h2, hc⟩
      · cases hc
    rcases key with ⟨e, h1, h2, hc⟩ | ⟨e, k, h1, h2, hc⟩
    case inr =>
      simp only [Option.bind_eq_some_iff, Option.some.injEq] at hc
      obtain ⟨⟨z, es, by_⟩, hz, s', hs', x', hx', rfl⟩ := hc
      simp only [eop, Option.map_eq_some_iff] at h
      obtain ⟨⟨v, H'⟩, hap, rfl⟩ := h
      obtain ⟨v', w', φ', g1, g2, g3⟩ := appendZ_rel (P := P) (ty := type) hs h1 h2 hz (ev_rel hg ht hs') (ev_rel hg ht hx') hap
      exact ⟨_, w', φ', v', hval rfl (by simpa using g1), .inl rfl, g2, g3⟩
    simp only [Option.bind_eq_some_iff, Option.some.injEq] at hc
    obtain ⟨⟨z, es, by_⟩, hz, s', hs', x', hx', rfl⟩ := hc
    simp only [eop, Option.map_eq_some_iff] at h
    obtain ⟨⟨v, H'⟩, hap, rfl⟩ := h
    obtain ⟨v', w', φ', g1, g2, g3⟩ := append_rel (P := P) (ty := type) hs h1 h2 hz (ev_rel hg ht hs') (ev_rel hg ht hx') hap
    exact ⟨_, w', φ', v', hval rfl (by simpa using g1), .inl rfl, g2, g3⟩
  · -- copy
    rename_i t u d s hts has
    have hts' : ts[0]? = some t := by rw [← Array.getElem?_toList, hts]; rfl
    have has' : args = #[d, s] := by rw [← Array.toArray_toList (xs := args), has]
    subst has'
    split at hc
    case h_2 => cases hc
    rename_i e h1
    simp only [Option.bind_eq_some_iff, Option.some.injEq] at hc
    obtain ⟨⟨z, es, by_⟩, hz, d', hd', s', hs', rfl⟩ := hc
    obtain ⟨i, v, hi, hv, rfl, rfl, rfl, _⟩ := zeroInfo_spec hz
    have hsz : sizeI P e = some i.size := by simp [sizeI, hi]
    simp only [eop] at h
    split at h
    case h_2 => cases h
    rename_i base l c k hp1 hp2
    simp only [Option.map_eq_some_iff] at h
    obtain ⟨H', hk, rfl⟩ := h
    obtain ⟨w', g1, g2⟩ := copy_rel (P := P) (ty := type) hs h1 hsz ts hts' (ev_rel hg ht hd') (ev_rel hg ht hs') hp1 hp2 hk
    exact ⟨_, w', φ, _, hval rfl (by simpa using g1), .inl rfl, .int _ _, g2⟩
  · -- len
    rename_i t x hts has
    have hts' : ts[0]? = some t := by rw [← Array.getElem?_toList, hts]; rfl
    have has' : args = #[x] := by rw [← Array.toArray_toList (xs := args), has]
    subst has'
    have hfin : ∀ (k : Nat), (Builtin.len_ ts type #[a.eval x]).run P w = .ok (.int .i64 k) w → OutR P φ H w a ⟨dst, .call { callee := .builtin .len, args := #[x], argTypes := ts }, type, pos, after, guard⟩ (.val (.int .i64 k) H) := by
      intro k hr
      exact .pure hs (hval rfl (by simpa using hr)) (.int _ _)
    split at hc
    · rename_i k e h1
      cases hc
      simp only [eop, Option.some.injEq] at h
      subst h
      refine hfin k ?_
      simp [Builtin.len_, hts', run_underlying h1, goInt]
    · rename_i h1
      simp only [Option.bind_eq_some_iff, Option.some.injEq] at hc
      obtain ⟨x', hx, rfl⟩ := hc
      have rx := ev_rel hg ht hx
      simp only [eop] at h
      split at h
      case h_2 => rename_i hk _; cases hk
      case h_3 => rename_i hk _; cases hk
      case h_4 => cases h
      rename_i s _ hp
      rw [hp] at rx
      cases h
      refine hfin s.size ?_
      generalize a.eval x = ax at rx
      cases rx
      simp [Builtin.len_, hts', run_underlying h1, goInt]
    · rename_i h1
      simp only [Option.bind_eq_some_iff, Option.some.injEq] at hc
      obtain ⟨x', hx, rfl⟩ := hc
      have rx := ev_rel hg ht hx
      simp only [eop] at h
      split at h
      case h_1 => rename_i hk _; cases hk
      case h_3 => rename_i hk _; cases hk
      case h_4 => cases h
      rename_i b l c _ hp
      rw [hp] at rx
      cases h
      refine hfin l ?_
      generalize a.eval x = ax at rx
      cases rx <;> simp [Builtin.len_, hts', run_underlying h1, goInt]
    · rename_i h1
      simp only [Option.bind_eq_some_iff, Option.some.injEq] at hc
      obtain ⟨x', hx, rfl⟩ := hc
      have rx := ev_rel hg ht hx
      simp only [eop] at h
      split at h
      case h_1 => rename_i hk _; cases hk
      case h_2 => rename_i hk _; cases hk
      case h_4 => cases h
      rename_i rr _ hp
      simp only [Option.map_eq_some_iff] at h
      obtain ⟨v, ⟨es, hes, rfl⟩, rfl⟩ := h
      rw [← hp] at hes
      refine hfin es.length ?_
      rcases mapOf_rel hs rx hes with ⟨he, rfl⟩ | ⟨rb, es', clock, he, hb, hr⟩
      · rw [he]; simp [Builtin.len_, hts', run_underlying h1, goInt]
      · rw [he]
        have := hr.1
        simp only [Array.length_toList] at this
        simp [Builtin.len_, hts', run_underlying h1, goInt, MapKept.run_getObj_map hb, this]
    · cases hc
  · -- max
    rename_i tsl xs
    simp only [Option.bind_eq_some_iff, Option.some.injEq] at hc
    obtain ⟨xs', hxs, rfl⟩ := hc
    have rxs := evs_rel hg ht hxs
    simp only [eop] at h
    split at h
    · cases h
    rename_i x rest hp
    rw [hp] at rxs
    simp only [Option.map_eq_some_iff] at h
    obtain ⟨v, hv, rfl⟩ := h
    generalize hq : args.toList.map a.eval = q at rxs
    cases rxs with
    | cons r1 r2 =>
      rename_i y rest'
      obtain ⟨v', g1, g2⟩ := max_rel (P := P) r2 r1 hv w
      refine .pure hs (hval (s := Builtin.max_ ts type (args.map a.eval)) rfl ?_) g2
      simp [Builtin.max_, hq, g1]
  · -- min
    rename_i tsl xs
    simp only [Option.bind_eq_some_iff, Option.some.injEq] at hc
    obtain ⟨xs', hxs, rfl⟩ := hc
    have rxs := evs_rel hg ht hxs
    simp only [eop] at h
    split at h
    · cases h
    rename_i x rest hp
    rw [hp] at rxs
    simp only [Option.map_eq_some_iff] at h
    obtain ⟨v, hv, rfl⟩ := h
    generalize hq : args.toList.map a.eval = q at rxs
    cases rxs with
    | cons r1 r2 =>
      rename_i y rest'
      obtain ⟨v', g1, g2⟩ := min_rel (P := P) r2 r1 hv w
      refine .pure hs (hval (s := Builtin.min_ ts type (args.map a.eval)) rfl ?_) g2
      simp [Builtin.min_, hq, g1]
  · -- clear
    rename_i t x hts has
    have hts' : ts[0]? = some t := by rw [← Array.getElem?_toList, hts]; rfl
    have has' : args = #[x] := by rw [← Array.toArray_toList (xs := args), has]
    subst has'
    split at hc
    · rename_i e h1
      simp only [Option.bind_eq_some_iff, Option.some.injEq] at hc
      obtain ⟨⟨z, es, by_⟩, hz, x', hx, rfl⟩ := hc
      have rx := ev_rel hg ht hx
      simp only [eop] at h
      split at h
      case h_2 => cases h
      rename_i base l c hp
      simp only [Option.map_eq_some_iff] at h
      obtain ⟨H', hp2, rfl⟩ := h
      obtain ⟨w', g1, g2⟩ := clear_rel (P := P) (ty := type) (H' := H') hs h1 hz ts hts' rx hp hp2
      exact ⟨_, w', φ, _, hval rfl (by simpa using g1), .inl rfl, .tuple .nil, g2⟩
    · rename_i kt e h1
      simp only [Option.bind_eq_some_iff, Option.some.injEq] at hc
      obtain ⟨x', hx, rfl⟩ := hc
      have rx := ev_rel hg ht hx
      simp only [eop] at h
      split at h
      · rename_i hp
        rw [hp] at rx
        cases h
        generalize hax : a.eval x = ax at rx
        cases rx
        refine .pure hs (hval (s := Builtin.clear_ ts type #[.map none]) (by simp [hax]; rfl) ?_) (.tuple .nil)
        simp [Builtin.clear_, hts', run_underlying h1]
      · rename_i rb hp
        rw [hp] at rx
        split at h
        case h_2 => cases h
        rename_i es0 clock hgt
        cases h
        generalize hax : a.eval x = ax at rx
        cases rx
        rename_i m hb
        have ho := hs.obj _ _ hb
        rw [hgt] at ho
        obtain ⟨es', hb', he⟩ := ho
        have hst := mapPut hs hb hgt (es2 := []) (es2' := #[]) clock .nil
        refine ⟨_, _, φ, _, hval (s := Builtin.clear_ ts type #[.map (some m.blk)]) (by simp [hax]; rfl) ?_, .inl rfl, .tuple .nil, hst⟩
        simp [Builtin.clear_, hts', run_underlying h1, MapKept.run_getObj_map hb', MapKept.run_setObj_map _ hb']
      · cases h
    · cases hc
  · -- delete
    rename_i t tr m k hts has
    have hts' : ts[0]? = some t := by rw [← Array.getElem?_toList, hts]; rfl
    have has' : args = #[m, k] := by rw [← Array.toArray_toList (xs := args), has]
    subst has'
    split at hc
    case h_2 => cases hc
    rename_i kt e h1
    split at hc
    case h_2 => cases hc
    rename_i d h2
    split at hc
    case isFalse => cases hc
    simp only [Option.bind_eq_some_iff, Option.some.injEq] at hc
    obtain ⟨m', hm, k', hk, rfl⟩ := hc
    have rm := ev_rel hg ht hm
    have rk := ev_rel hg ht hk
    simp only [eop] at h
    split at h
    · rename_i hp
      rw [hp] at rm
      split at h
      case isFalse => cases h
      rename_i hok
      cases h
      generalize hax : a.eval m = ax at rm
      cases rm
      have := delete_nil (P := P) (ty := type) (w := w) h1 h2 ts hts' rk hok
      exact .pure hs (hval (s := Builtin.delete_ ts type #[.map none, a.eval k]) (by simp [hax]; rfl) this) (.tuple .nil)
    · rename_i rb hp
      rw [hp] at rm
      split at h
      case isFalse => cases h
      rename_i hok
      split at h
      case h_2 => cases h
      rename_i es clock hgt
      generalize hax : a.eval m = ax at rm
      cases rm
      rename_i mm hb
      split at h
      · rename_i i u hf
        cases h
        obtain ⟨w', g1, g2⟩ := delete_rel (P := P) (ty := type) hs h1 h2 ts hts' hb rk hok hgt hf
        exact ⟨_, w', φ, _, hval (s := Builtin.delete_ ts type #[.map (some mm.blk), a.eval k]) (by simp [hax]; rfl) g1, .inl rfl, .tuple .nil, g2⟩
      · rename_i hf
        cases h
        obtain ⟨w', g1, g2⟩ := delete_rel (P := P) (ty := type) hs h1 h2 ts hts' hb rk hok hgt hf
        exact ⟨_, w', φ, _, hval (s := Builtin.delete_ ts type #[.map (some mm.blk), a.eval k]) (by simp [hax]; rfl) g1, .inl rfl, .tuple .nil, g2⟩
      · cases h
    · cases h
  · cases hc

theorem cOp_sound (hg : GOk G φ) (ht : VRs φ T a.tmps.toList) (hs : Sim φ H w) {o : Oper} {n : NOp} (hc : cOp P G o = some n) (h : eop n T H = some r) : OutR P φ H w a o r := by
  obtain ⟨dst, op, type, pos, after, guard⟩ := o
  cases op with
  | move x => exact (s_move hg ht hs (by simpa [cOp] using hc) h).1
  | assign x => exact (s_move hg ht hs (by simpa [cOp] using hc) h).2
  | pick x y z => exact s_pick hg ht hs hc h
  | alloc t => exact (s_alloc hc h).out hs
  | box t x => exact (s_box hg ht hc h).out hs
  | build t p => exact s_build hg ht hs hc h
  | buildSlice t l p => exact (s_bslice hg ht hc h).out hs
  | load t x => exact s_load hg ht hs hc h
  | store t x y => exact s_store hg ht hs hc h
  | nilCheck x => exact s_nilchk hg ht hs hc h
  | binOp op t x y u => exact s_bin hg ht hs hc h
  | unOp op t x => exact s_un hg ht hs hc h
  | convert s d x => exact s_convert hg ht hs hc h
  | makeFunc f x y =>
    cases f with
    | func f => exact s_mkfunc hg ht hs hc h
    | _ => simp [cOp] at hc
  | makeMap t x =>
    cases x with
    | none => exact (s_mkmap hc h).out hs
    | some x => simp [cOp] at hc
  | makeSlice t x y => exact (s_mkslice hg ht hc h).out hs
  | slice t x lo hi mx => exact s_slice hg ht hs hc h
  | fieldAddr t x f => exact s_faddr hg ht hs hc h
  | field t x f => exact s_field hg ht hs hc h
  | indexAddr t x y => exact s_iaddr hg ht hs hc h
  | index t x y => exact s_index hg ht hs hc h
  | lookup t x y ok => exact s_lookup hg ht hs hc h
  | mapUpdate t x y z => exact s_mapupd hg ht hs hc h
  | extract x i => exact s_extract hg ht hs hc h
  | range t x => exact s_range hg ht hs hc h
  | next x s => exact s_next hg ht hs hc h
  | entry x => exact s_entry hg ht hs hc h
  | sliceToArrayPointer t x => exact s_s2ap hg ht hs hc h
  | call c =>
    obtain ⟨callee, args, ts⟩ := c
    cases callee with
    | value f => exact s_call hg ht hs hc h
    | builtin b => exact s_builtin hg ht hs hc h
    | invoke x m => simp [cOp] at hc
  | _ => simp [cOp] at hc

end Go.E
