/-
  THE EVALUATOR, PART K: maps, calls, the built-in functions; the theorem on operations.
-/
import Derived.Test.YtfgejkhhkacknaaDoorEngJ
set_option linter.unusedSimpArgs false
set_option linter.unusedVariables false
namespace Go.E
open Go Go.MapKept

variable {P : Program} {G : Nat} {φ : Phi} {H : AHeap} {w : World} {T : Env} {a : Act} {r : Res} {dst : Option Tmp} {type : TypeId} {pos : String} {after : Array Edge} {guard : Option (Nat × Bool)}

theorem s_lookup (hg : GOk G φ) (ht : VRs φ T a.tmps.toList) (hs : Sim φ H w) {t : TypeId} {x y : Operand} {ok : Bool} {n : NOp} (hc : cOp P G ⟨dst, .lookup t x y ok, type, pos, after, guard⟩ = some n) (h : eop n T H = some r) : OutR P φ H w a ⟨dst, .lookup t x y ok, type, pos, after, guard⟩ r := by
  simp only [cOp, Option.bind_eq_some_iff] at hc
  obtain ⟨x', hx, y', hy, hc⟩ := hc
  have rx := ev_rel hg ht hx
  have ry := ev_rel hg ht hy
  split at hc
  case h_2 => cases hc
  rename_i kt e htd
  split at hc
  case h_2 => cases hc
  rename_i d z hd hz
  split at hc
  case isFalse => cases hc
  cases hc
  simp only [eop] at h
  split at h
  case isFalse => cases h
  rename_i hok
  simp only [Option.bind_eq_some_iff, Option.map_eq_some_iff] at h
  obtain ⟨es, hes, rr, hr, rfl⟩ := h
  obtain ⟨v', h1, h2⟩ := lookup_rel (P := P) hs htd hd hz rx ry hok hes hr ok
  exact .pure hs (by simp [execOp, h1]) h2

theorem s_mapupd (hg : GOk G φ) (ht : VRs φ T a.tmps.toList) (hs : Sim φ H w) {t : TypeId} {x y z : Operand} {n : NOp} (hc : cOp P G ⟨dst, .mapUpdate t x y z, type, pos, after, guard⟩ = some n) (h : eop n T H = some r) : OutR P φ H w a ⟨dst, .mapUpdate t x y z, type, pos, after, guard⟩ r := by
  simp only [cOp, Option.bind_eq_some_iff] at hc
  obtain ⟨x', hx, y', hy, z', hz, hc⟩ := hc
  have rx := ev_rel hg ht hx
  have ry := ev_rel hg ht hy
  have rz := ev_rel hg ht hz
  split at hc
  case h_2 => cases hc
  rename_i kt e htd
  split at hc
  case h_2 => cases hc
  rename_i d hd
  split at hc
  case isFalse => cases hc
  cases hc
  simp only [eop] at h
  split at h
  case h_2 => cases h
  rename_i rb hp
  rw [hp] at rx
  split at h
  case isFalse => cases h
  rename_i hok
  split at h
  case h_2 => cases h
  rename_i es clock hgt
  generalize hax : a.eval x = ax at rx
  cases rx
  rename_i m hb
  split at h
  · rename_i i u hf
    cases h
    obtain ⟨w', h1, h2⟩ := mapUpdate_rel (P := P) hs htd hd hb ry rz hok hgt hf
    exact ⟨.skip, w', φ, undef, by simp [execOp, hax, h1], .inr ⟨rfl, rfl⟩, undefR φ, h2⟩
  · rename_i hf
    cases h
    obtain ⟨w', h1, h2⟩ := mapUpdate_rel (P := P) hs htd hd hb ry rz hok hgt hf
    exact ⟨.skip, w', φ, undef, by simp [execOp, hax, h1], .inr ⟨rfl, rfl⟩, undefR φ, h2⟩
  · cases h

theorem s_extract (hg : GOk G φ) (ht : VRs φ T a.tmps.toList) (hs : Sim φ H w) {x : Operand} {i : Nat} {n : NOp} (hc : cOp P G ⟨dst, .extract x i, type, pos, after, guard⟩ = some n) (h : eop n T H = some r) : OutR P φ H w a ⟨dst, .extract x i, type, pos, after, guard⟩ r := by
  simp only [cOp, Option.map_eq_some_iff] at hc
  obtain ⟨x', hx, rfl⟩ := hc
  have rx := ev_rel hg ht hx
  simp only [eop] at h
  split at h
  case h_2 => cases h
  rename_i vs hp
  rw [hp] at rx
  simp only [Option.map_eq_some_iff] at h
  obtain ⟨v, hv, rfl⟩ := h
  generalize hax : a.eval x = ax at rx
  cases rx
  rename_i xs xs' hxs
  obtain ⟨v', h1, h2⟩ := hxs.get i v hv
  refine .pure hs (v' := v') ?_ h2
  simp [execOp, hax, Instr.extract, h1]

theorem s_call (hg : GOk G φ) (ht : VRs φ T a.tmps.toList) (hs : Sim φ H w) {f : Operand} {args : Array Operand} {ts : Array TypeId} {n : NOp}
    (hc : cOp P G ⟨dst, .call { callee := .value f, args, argTypes := ts }, type, pos, after, guard⟩ = some n) (h : eop n T H = some r) : OutR P φ H w a ⟨dst, .call { callee := .value f, args, argTypes := ts }, type, pos, after, guard⟩ r := by
  simp only [cOp, Option.bind_eq_some_iff, Option.map_eq_some_iff] at hc
  obtain ⟨f', hf, as, hargs, rfl⟩ := hc
  have rf := ev_rel hg ht hf
  have ras := evs_rel hg ht hargs
  simp only [eop] at h
  split at h
  case h_2 => cases h
  rename_i fn u v hp
  rw [hp] at rf
  cases h
  generalize hax : a.eval f = ax at rf
  cases rf
  rename_i xs xs' ys ys' h1 h2
  refine ⟨rfl, _, (h1.append ras).append h2, fun g hfn hb hnm => ?_⟩
  simp [execOp, resolve, hax, Deferred.ofValue, invoke, callFunc, hfn, hnm, hb]
  cases hbd : g.body with
  | none => rw [hbd] at hb; cases hb
  | some c =>
    simp [List.append_toArray]

theorem run_call_builtin {b : Builtin} {args : Array Operand} {ts : Array TypeId} : (execOp a.eval ⟨dst, .call { callee := .builtin b, args, argTypes := ts }, type, pos, after, guard⟩).run P w = (builtin b ts type (args.map fun | .const _ => true | _ => false) (args.map a.eval)).run P w := by
  simp [execOp, resolve, invoke]
  rfl

theorem s_builtin (hg : GOk G φ) (ht : VRs φ T a.tmps.toList) (hs : Sim φ H w) {b : Builtin} {args : Array Operand} {ts : Array TypeId} {n : NOp}
    (hc : cOp P G ⟨dst, .call { callee := .builtin b, args, argTypes := ts }, type, pos, after, guard⟩ = some n) (h : eop n T H = some r) : OutR P φ H w a ⟨dst, .call { callee := .builtin b, args, argTypes := ts }, type, pos, after, guard⟩ r := by
  have hval : ∀ {s : Sem Value} {v' : Value} {w' : World}, (builtin b ts type (args.map fun | .const _ => true | _ => false) (args.map a.eval)) = (do pure (.value (← s))) → s.run P w = .ok v' w' →
      (execOp a.eval ⟨dst, .call { callee := .builtin b, args, argTypes := ts }, type, pos, after, guard⟩).run P w = .ok (.value v') w' := by
    intro s v' w' h1 h2
    rw [run_call_builtin, h1]
    simp [h2]
  simp only [cOp] at hc
  unfold cBuiltin at hc
  split at hc
  · -- append
    rename_i t u s x hts has
    have hts' : ts = #[t, u] := by rw [← Array.toArray_toList (xs := ts), hts]
    have has' : args = #[s, x] := by rw [← Array.toArray_toList (xs := args), has]
    subst hts'; subst has'
    have key : ∃ e, P.underlying t = some (.slice e) ∧ ((∃ f, P.underlying u = some (.slice f)) ∨ P.underlying u = some .string) ∧ ((zeroInfo P e).bind fun (_, es, by_) => (cOpd G s).bind fun s => (cOpd G x).bind fun x => some (NOp.append es by_ s x)) = some n := by
      split at hc
      · rename_i e f h1 h2; exact ⟨e, h1, .inl ⟨f, h2⟩, hc⟩
      · rename_i e h1 h2; exact ⟨e, h1, .inr h2, hc⟩
      · cases hc
    obtain ⟨e, h1, h2, hc⟩ := key
    simp only [Option.bind_eq_some_iff, Option.some.injEq] at hc
    obtain ⟨⟨z, es, by_⟩, hz, s', hs', x', hx', rfl⟩ := hc
    simp only [eop, Option.map_eq_some_iff] at h
    obtain ⟨⟨v, H'⟩, hap, rfl⟩ := h
    obtain ⟨v', w', φ', g1, g2, g3⟩ := append_rel (P := P) (ty := type) hs h1 h2 hz (ev_rel hg ht hs') (ev_rel hg ht hx') hap
    exact ⟨_, w', φ', v', hval rfl (by simpa using g1), .inl rfl, g2, g3⟩
  · -- copy
    rename_i t u d s hts has
    have hts' : ts[0]? = some t := by rw [← Array.getElem?_toList, hts]; rfl
    have has' : args = #[d, s] := by rw [← Array.toArray_toList (xs := args), has]
    subst has'
    split at hc
    case h_2 => cases hc
    rename_i e h1
    simp only [Option.bind_eq_some_iff, Option.some.injEq] at hc
    obtain ⟨⟨z, es, by_⟩, hz, d', hd', s', hs', rfl⟩ := hc
    obtain ⟨i, v, hi, hv, rfl, rfl, rfl, _⟩ := zeroInfo_spec hz
    have hsz : sizeI P e = some i.size := by simp [sizeI, hi]
    simp only [eop] at h
    split at h
    case h_2 => cases h
    rename_i base l c k hp1 hp2
    simp only [Option.map_eq_some_iff] at h
    obtain ⟨H', hk, rfl⟩ := h
    obtain ⟨w', g1, g2⟩ := copy_rel (P := P) (ty := type) hs h1 hsz ts hts' (ev_rel hg ht hd') (ev_rel hg ht hs') hp1 hp2 hk
    exact ⟨_, w', φ, _, hval rfl (by simpa using g1), .inl rfl, .int _ _, g2⟩
  · -- len
    rename_i t x hts has
    have hts' : ts[0]? = some t := by rw [← Array.getElem?_toList, hts]; rfl
    have has' : args = #[x] := by rw [← Array.toArray_toList (xs := args), has]
    subst has'
    have hfin : ∀ (k : Nat), (Builtin.len_ ts type #[a.eval x]).run P w = .ok (.int .i64 k) w → OutR P φ H w a ⟨dst, .call { callee := .builtin .len, args := #[x], argTypes := ts }, type, pos, after, guard⟩ (.val (.int .i64 k) H) := by
      intro k hr
      exact .pure hs (hval rfl (by simpa using hr)) (.int _ _)
    split at hc
    · rename_i k e h1
      cases hc
      simp only [eop, Option.some.injEq] at h
      subst h
      refine hfin k ?_
      simp [Builtin.len_, hts', run_underlying h1, goInt]
    · rename_i h1
      simp only [Option.bind_eq_some_iff, Option.some.injEq] at hc
      obtain ⟨x', hx, rfl⟩ := hc
      have rx := ev_rel hg ht hx
      simp only [eop] at h
      split at h
      case h_2 => rename_i hk _; cases hk
      case h_3 => rename_i hk _; cases hk
      case h_4 => cases h
      rename_i s _ hp
      rw [hp] at rx
      cases h
      refine hfin s.size ?_
      generalize a.eval x = ax at rx
      cases rx
      simp [Builtin.len_, hts', run_underlying h1, goInt]
    · rename_i h1
      simp only [Option.bind_eq_some_iff, Option.some.injEq] at hc
      obtain ⟨x', hx, rfl⟩ := hc
      have rx := ev_rel hg ht hx
      simp only [eop] at h
      split at h
      case h_1 => rename_i hk _; cases hk
      case h_3 => rename_i hk _; cases hk
      case h_4 => cases h
      rename_i b l c _ hp
      rw [hp] at rx
      cases h
      refine hfin l ?_
      generalize a.eval x = ax at rx
      cases rx <;> simp [Builtin.len_, hts', run_underlying h1, goInt]
    · rename_i h1
      simp only [Option.bind_eq_some_iff, Option.some.injEq] at hc
      obtain ⟨x', hx, rfl⟩ := hc
      have rx := ev_rel hg ht hx
      simp only [eop] at h
      split at h
      case h_1 => rename_i hk _; cases hk
      case h_2 => rename_i hk _; cases hk
      case h_4 => cases h
      rename_i rr _ hp
      simp only [Option.map_eq_some_iff] at h
      obtain ⟨v, ⟨es, hes, rfl⟩, rfl⟩ := h
      rw [← hp] at hes
      refine hfin es.length ?_
      rcases mapOf_rel hs rx hes with ⟨he, rfl⟩ | ⟨rb, es', clock, he, hb, hr⟩
      · rw [he]; simp [Builtin.len_, hts', run_underlying h1, goInt]
      · rw [he]
        have := hr.1
        simp only [Array.length_toList] at this
        simp [Builtin.len_, hts', run_underlying h1, goInt, MapKept.run_getObj_map hb, this]
    · cases hc
  · -- max
    rename_i tsl xs
    simp only [Option.bind_eq_some_iff, Option.some.injEq] at hc
    obtain ⟨xs', hxs, rfl⟩ := hc
    have rxs := evs_rel hg ht hxs
    simp only [eop] at h
    split at h
    · cases h
    rename_i x rest hp
    rw [hp] at rxs
    simp only [Option.map_eq_some_iff] at h
    obtain ⟨v, hv, rfl⟩ := h
    generalize hq : args.toList.map a.eval = q at rxs
    cases rxs with
    | cons r1 r2 =>
      rename_i y rest'
      obtain ⟨v', g1, g2⟩ := max_rel (P := P) r2 r1 hv w
      refine .pure hs (hval (s := Builtin.max_ ts type (args.map a.eval)) rfl ?_) g2
      simp [Builtin.max_, hq, g1]
  · -- min
    rename_i tsl xs
    simp only [Option.bind_eq_some_iff, Option.some.injEq] at hc
    obtain ⟨xs', hxs, rfl⟩ := hc
    have rxs := evs_rel hg ht hxs
    simp only [eop] at h
    split at h
    · cases h
    rename_i x rest hp
    rw [hp] at rxs
    simp only [Option.map_eq_some_iff] at h
    obtain ⟨v, hv, rfl⟩ := h
    generalize hq : args.toList.map a.eval = q at rxs
    cases rxs with
    | cons r1 r2 =>
      rename_i y rest'
      obtain ⟨v', g1, g2⟩ := min_rel (P := P) r2 r1 hv w
      refine .pure hs (hval (s := Builtin.min_ ts type (args.map a.eval)) rfl ?_) g2
      simp [Builtin.min_, hq, g1]
  · -- clear
    rename_i t x hts has
    have hts' : ts[0]? = some t := by rw [← Array.getElem?_toList, hts]; rfl
    have has' : args = #[x] := by rw [← Array.toArray_toList (xs := args), has]
    subst has'
    split at hc
    · rename_i e h1
      simp only [Option.bind_eq_some_iff, Option.some.injEq] at hc
      obtain ⟨⟨z, es, by_⟩, hz, x', hx, rfl⟩ := hc
      have rx := ev_rel hg ht hx
      simp only [eop] at h
      split at h
      case h_2 => cases h
      rename_i base l c hp
      simp only [Option.map_eq_some_iff] at h
      obtain ⟨H', hp2, rfl⟩ := h
      obtain ⟨w', g1, g2⟩ := clear_rel (P := P) (ty := type) (H' := H') hs h1 hz ts hts' rx hp hp2
      exact ⟨_, w', φ, _, hval rfl (by simpa using g1), .inl rfl, .tuple .nil, g2⟩
    · rename_i kt e h1
      simp only [Option.bind_eq_some_iff, Option.some.injEq] at hc
      obtain ⟨x', hx, rfl⟩ := hc
      have rx := ev_rel hg ht hx
      simp only [eop] at h
      split at h
      · rename_i hp
        rw [hp] at rx
        cases h
        generalize hax : a.eval x = ax at rx
        cases rx
        refine .pure hs (hval (s := Builtin.clear_ ts type #[.map none]) (by simp [hax]; rfl) ?_) (.tuple .nil)
        simp [Builtin.clear_, hts', run_underlying h1]
      · rename_i rb hp
        rw [hp] at rx
        split at h
        case h_2 => cases h
        rename_i es0 clock hgt
        cases h
        generalize hax : a.eval x = ax at rx
        cases rx
        rename_i m hb
        have ho := hs.obj _ _ hb
        rw [hgt] at ho
        obtain ⟨es', hb', he⟩ := ho
        have hst := mapPut hs hb hgt (es2 := []) (es2' := #[]) clock .nil
        refine ⟨_, _, φ, _, hval (s := Builtin.clear_ ts type #[.map (some m.blk)]) (by simp [hax]; rfl) ?_, .inl rfl, .tuple .nil, hst⟩
        simp [Builtin.clear_, hts', run_underlying h1, MapKept.run_getObj_map hb', MapKept.run_setObj_map _ hb']
      · cases h
    · cases hc
  · -- delete
    rename_i t tr m k hts has
    have hts' : ts[0]? = some t := by rw [← Array.getElem?_toList, hts]; rfl
    have has' : args = #[m, k] := by rw [← Array.toArray_toList (xs := args), has]
    subst has'
    split at hc
    case h_2 => cases hc
    rename_i kt e h1
    split at hc
    case h_2 => cases hc
    rename_i d h2
    split at hc
    case isFalse => cases hc
    simp only [Option.bind_eq_some_iff, Option.some.injEq] at hc
    obtain ⟨m', hm, k', hk, rfl⟩ := hc
    have rm := ev_rel hg ht hm
    have rk := ev_rel hg ht hk
    simp only [eop] at h
    split at h
    · rename_i hp
      rw [hp] at rm
      split at h
      case isFalse => cases h
      rename_i hok
      cases h
      generalize hax : a.eval m = ax at rm
      cases rm
      have := delete_nil (P := P) (ty := type) (w := w) h1 h2 ts hts' rk hok
      exact .pure hs (hval (s := Builtin.delete_ ts type #[.map none, a.eval k]) (by simp [hax]; rfl) this) (.tuple .nil)
    · rename_i rb hp
      rw [hp] at rm
      split at h
      case isFalse => cases h
      rename_i hok
      split at h
      case h_2 => cases h
      rename_i es clock hgt
      generalize hax : a.eval m = ax at rm
      cases rm
      rename_i mm hb
      split at h
      · rename_i i u hf
        cases h
        obtain ⟨w', g1, g2⟩ := delete_rel (P := P) (ty := type) hs h1 h2 ts hts' hb rk hok hgt hf
        exact ⟨_, w', φ, _, hval (s := Builtin.delete_ ts type #[.map (some mm.blk), a.eval k]) (by simp [hax]; rfl) g1, .inl rfl, .tuple .nil, g2⟩
      · rename_i hf
        cases h
        obtain ⟨w', g1, g2⟩ := delete_rel (P := P) (ty := type) hs h1 h2 ts hts' hb rk hok hgt hf
        exact ⟨_, w', φ, _, hval (s := Builtin.delete_ ts type #[.map (some mm.blk), a.eval k]) (by simp [hax]; rfl) g1, .inl rfl, .tuple .nil, g2⟩
      · cases h
    · cases h
  · cases hc

/-- EACH OPERATION OF THE MACHINE'S IS WHAT THE EVALUATOR'S DOES. -/
theorem cOp_sound (hg : GOk G φ) (ht : VRs φ T a.tmps.toList) (hs : Sim φ H w) {o : Oper} {n : NOp} (hc : cOp P G o = some n) (h : eop n T H = some r) : OutR P φ H w a o r := by
  obtain ⟨dst, op, type, pos, after, guard⟩ := o
  cases op with
  | move x => exact (s_move hg ht hs (by simpa [cOp] using hc) h).1
  | assign x => exact (s_move hg ht hs (by simpa [cOp] using hc) h).2
  | pick x y z => exact s_pick hg ht hs hc h
  | alloc t => exact (s_alloc hc h).out hs
  | box t x => exact (s_box hg ht hc h).out hs
  | build t p => exact s_build hg ht hs hc h
  | buildSlice t l p => exact (s_bslice hg ht hc h).out hs
  | load t x => exact s_load hg ht hs hc h
  | store t x y => exact s_store hg ht hs hc h
  | nilCheck x => exact s_nilchk hg ht hs hc h
  | binOp op t x y u => exact s_bin hg ht hs hc h
  | unOp op t x => exact s_un hg ht hs hc h
  | convert s d x => exact s_convert hg ht hs hc h
  | makeFunc f x y =>
    cases f with
    | func f => exact s_mkfunc hg ht hs hc h
    | _ => simp [cOp] at hc
  | makeMap t x =>
    cases x with
    | none => exact (s_mkmap hc h).out hs
    | some x => simp [cOp] at hc
  | makeSlice t x y => exact (s_mkslice hg ht hc h).out hs
  | slice t x lo hi mx => exact s_slice hg ht hs hc h
  | fieldAddr t x f => exact s_faddr hg ht hs hc h
  | field t x f => exact s_field hg ht hs hc h
  | indexAddr t x y => exact s_iaddr hg ht hs hc h
  | index t x y => exact s_index hg ht hs hc h
  | lookup t x y ok => exact s_lookup hg ht hs hc h
  | mapUpdate t x y z => exact s_mapupd hg ht hs hc h
  | extract x i => exact s_extract hg ht hs hc h
  | call c =>
    obtain ⟨callee, args, ts⟩ := c
    cases callee with
    | value f => exact s_call hg ht hs hc h
    | builtin b => exact s_builtin hg ht hs hc h
    | invoke x m => simp [cOp] at hc
  | _ => simp [cOp] at hc

end Go.E
