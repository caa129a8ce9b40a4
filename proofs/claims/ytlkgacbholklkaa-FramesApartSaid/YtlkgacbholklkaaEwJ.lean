/-
  THE EVALUATOR, PART J: each of the machine's operations is what the evaluator's does: the theorem.
-/
import Derived.Test.YtlkgacbholklkaaEwI
set_option linter.unusedSimpArgs false
set_option linter.unusedVariables false
namespace Go.E
open Go Go.MapKept
variable {P : Program} {G : Nat}
def OutR (P : Program) (φ : Phi) (H : AHeap) (w : World) (a : Act) (o : Oper) : Res → Prop
  | .val v H' => ∃ nx w' φ' v', (execOp a.eval o).run P w = .ok nx w' ∧ (nx = .value v' ∨ (nx = .skip ∧ v' = undef)) ∧ VR φ' v v' ∧ Stp φ H w φ' H' w'
  | .call (.yield b) args H' => H' = H ∧ ∃ args' m, VRs φ args args' ∧ φ b = some m ∧ (execOp a.eval o).run P w = (Instr.yield m.blk args'.toArray).run P w
  | .call (.fn f) args H' => H' = H ∧ ∃ args', VRs φ args args' ∧ ∀ fn, P.funcs[f]? = some fn → fn.body.isSome = true → fn.name ≠ "runtime.NumGoroutine" → (execOp a.eval o).run P w = .ok (.enter f args'.toArray) w

theorem OutR.pure {φ : Phi} {H : AHeap} {w : World} {a : Act} {o : Oper} {v v' : Value} (hs : Sim φ H w) (hr : (execOp a.eval o).run P w = .ok (.value v') w) (hv : VR φ v v') : OutR P φ H w a o (.val v H) :=
  ⟨_, w, φ, v', hr, .inl rfl, hv, .refl hs⟩

def AllocD (P : Program) (φ : Phi) (w : World) (a : Act) (o : Oper) (v : Nat → Value) (obj : AObj) : Prop :=
  ∃ (m : Emb) (ob : Obj) (v' : Value), m.blk = w.heap.size ∧ (execOp a.eval o).run P w = .ok (.value v') (w.alloc ob) ∧
    ∀ b (ψ : Phi), φ.le ψ → ψ b = some m → ObjR ψ m (w.alloc ob) obj ∧ VR ψ (v b) v'

theorem OutR.ofAlloc {φ : Phi} {H : AHeap} {w : World} {a : Act} {o : Oper} {v : Nat → Value} {obj : AObj} (hs : Sim φ H w) (h : AllocD P φ w a o v obj) : OutR P φ H w a o (.val (v H.next) (H.add obj)) := by
  obtain ⟨m, ob, v', hm, hr, hk⟩ := h
  obtain ⟨h1, h2⟩ := hk H.next (φ.add H.next m) (Phi.add_le hs.fresh) (Phi.add_self _ _ _)
  exact ⟨_, _, _, v', hr, .inl rfl, h2, Stp.alloc hs hm h1⟩

theorem cells_obj {ψ : Phi} {w : World} {cs cs' : List Value} (hr : VRs ψ cs cs') (hone : ∀ v ∈ cs, v.oneCell' = true) (es : Nat) (el : TypeId) :
    ObjR ψ ⟨w.heap.size, 0, cs.length, cs.length, es⟩ (w.alloc (.cells cs'.toArray el)) (.cells cs es false) := by
  have hl := hr.length
  refine ⟨rfl, Nat.le_refl _, rfl, hone, cs'.toArray, el, (0, 0), heap_alloc_new w _, by simp; omega, ?_, fun _ => .inl rfl⟩
  intro i v hv
  obtain ⟨v', h1, h2⟩ := hr.get i v hv
  exact ⟨v', by simpa using h1, h2⟩

theorem AllocD.ptr {φ : Phi} {w : World} {a : Act} {o : Oper} {cs cs' : List Value} (es : Nat) {el : TypeId} (hr : VRs φ cs cs') (hone : ∀ v ∈ cs, v.oneCell' = true)
    (hx : (execOp a.eval o).run P w = .ok (.value (.pointer (some ⟨w.heap.size, 0, none⟩))) (w.alloc (.cells cs'.toArray el))) :
    AllocD P φ w a o (fun b => .pointer (some ⟨b, 0, none⟩)) (.cells cs es false) :=
  ⟨⟨w.heap.size, 0, cs.length, cs.length, es⟩, _, _, rfl, hx, fun b ψ hle hb => ⟨cells_obj (hr.mono hle) hone es el, by
    have := VR.ptr (φ := ψ) 0 hb
    simpa using this⟩⟩

theorem AllocD.slice {φ : Phi} {w : World} {a : Act} {o : Oper} {cs cs' : List Value} (es : Nat) {l c : Nat} {el : TypeId} (hr : VRs φ cs cs') (hone : ∀ v ∈ cs, v.oneCell' = true) (hl : l ≤ c)
    (hx : (execOp a.eval o).run P w = .ok (.value (.slice (some ⟨w.heap.size, 0, none⟩) l c)) (w.alloc (.cells cs'.toArray el))) :
    AllocD P φ w a o (fun b => .slice (some ⟨b, 0, none⟩) l c) (.cells cs es false) :=
  ⟨⟨w.heap.size, 0, cs.length, cs.length, es⟩, _, _, rfl, hx, fun b ψ hle hb => ⟨cells_obj (hr.mono hle) hone es el, by
    have := VR.sl (φ := ψ) (o := 0) (l := l) (c := c) (c' := c) hb hl (.inl rfl)
    simpa using this⟩⟩

def AllocR (P : Program) (φ : Phi) (H : AHeap) (w : World) (a : Act) (o : Oper) (r : Res) : Prop := ∃ v obj, r = .val (v H.next) (H.add obj) ∧ AllocD P φ w a o v obj

theorem AllocR.out {φ : Phi} {H : AHeap} {w : World} {a : Act} {o : Oper} {r : Res} (hs : Sim φ H w) (h : AllocR P φ H w a o r) : OutR P φ H w a o r := by
  obtain ⟨v, obj, rfl, h⟩ := h
  exact .ofAlloc hs h

theorem opt_rel {φ : Phi} {T : Env} {a : Act} (hg : GOk G φ) (ht : VRs φ T a.tmps.toList) {x : Option Operand} {n : Option NOpd} (h : cOpt G x = some n) : optR φ (n.map (·.ev T)) (x.map a.eval) := by
  cases x with
  | none => simp [cOpt] at h; subst h; exact .inl ⟨rfl, rfl⟩
  | some x =>
    simp only [cOpt, Option.map_eq_some_iff] at h
    obtain ⟨y, h1, rfl⟩ := h
    exact .inr ⟨_, _, rfl, rfl, ev_rel hg ht h1⟩

section
variable {φ : Phi} {H : AHeap} {w : World} {T : Env} {a : Act} {r : Res} {dst : Option Tmp} {type : TypeId} {pos : String} {after : Array Edge} {guard : Option (Nat × Bool)}
theorem s_move (hg : GOk G φ) (ht : VRs φ T a.tmps.toList) (hs : Sim φ H w) {x : Operand} {n : NOp} (hc : (cOpd G x).map .mov = some n) (h : eop n T H = some r) : OutR P φ H w a ⟨dst, .move x, type, pos, after, guard⟩ r ∧ OutR P φ H w a ⟨dst, .assign x, type, pos, after, guard⟩ r := by
  simp only [Option.map_eq_some_iff] at hc
  obtain ⟨y, hy, rfl⟩ := hc
  simp only [eop, Option.some.injEq] at h
  subst h
  exact ⟨.pure hs (by simp [execOp]) (ev_rel hg ht hy), .pure hs (by simp [execOp]) (ev_rel hg ht hy)⟩

theorem s_pick (hg : GOk G φ) (ht : VRs φ T a.tmps.toList) (hs : Sim φ H w) {x y z : Operand} {n : NOp} (hc : cOp P G ⟨dst, .pick x y z, type, pos, after, guard⟩ = some n) (h : eop n T H = some r) : OutR P φ H w a ⟨dst, .pick x y z, type, pos, after, guard⟩ r := by
  simp only [cOp, Option.bind_eq_some_iff, Option.some.injEq] at hc
  obtain ⟨x', hx, y', hy, z', hz, rfl⟩ := hc
  have rx := ev_rel hg ht hx
  have ry := ev_rel hg ht hy
  have rz := ev_rel hg ht hz
  simp only [eop] at h
  split at h
  case h_2 => cases h
  rename_i b hb
  rw [hb] at rx
  cases h
  generalize hax : a.eval x = ax at rx
  cases rx
  refine .pure hs (v' := if b then a.eval y else a.eval z) ?_ ?_
  · simp [execOp, hax, asBool]
  · cases b
    · exact rz
    · exact ry

theorem s_alloc {t : TypeId} {n : NOp} (hc : cOp P G ⟨dst, .alloc t, type, pos, after, guard⟩ = some n) (h : eop n T H = some r) : AllocR P φ H w a ⟨dst, .alloc t, type, pos, after, guard⟩ r := by
  simp only [cOp, Option.map_eq_some_iff] at hc
  obtain ⟨⟨z, k, by_⟩, hz, rfl⟩ := hc
  obtain ⟨i, v, hi, hv, rfl, rfl, rfl, hcl, hzl, hpos, _, _, hone⟩ := zeroInfo_spec hz
  simp only [eop, Option.some.injEq] at h
  subst h
  refine ⟨fun b => .pointer (some ⟨b, 0, none⟩), _, rfl, .ptr 0 (closedVs_rel φ _ hcl) hone (el := t) ?_⟩
  simp [execOp, Instr.alloc, zeroValue, run_typeInfo' hi, hv, newVar, newRow, cellsL]

theorem s_box (hg : GOk G φ) (ht : VRs φ T a.tmps.toList) {t : TypeId} {x : Operand} {n : NOp} (hc : cOp P G ⟨dst, .box t x, type, pos, after, guard⟩ = some n) (h : eop n T H = some r) : AllocR P φ H w a ⟨dst, .box t x, type, pos, after, guard⟩ r := by
  simp only [cOp, Option.bind_eq_some_iff, Option.map_eq_some_iff] at hc
  obtain ⟨k, _, x', hx, rfl⟩ := hc
  simp only [eop] at h
  split at h
  case isFalse => cases h
  rename_i hone
  cases h
  refine ⟨fun b => .pointer (some ⟨b, 0, none⟩), _, rfl, .ptr 0 (cells_rel (ev_rel hg ht hx)) (by simpa using hone) (el := t) ?_⟩
  simp [execOp, Instr.box, newVar, newRow, cellsL]

theorem s_build (hg : GOk G φ) (ht : VRs φ T a.tmps.toList) (hs : Sim φ H w) {t : TypeId} {parts : Array (Nat × Operand)} {n : NOp} (hc : cOp P G ⟨dst, .build t parts, type, pos, after, guard⟩ = some n) (h : eop n T H = some r) : OutR P φ H w a ⟨dst, .build t parts, type, pos, after, guard⟩ r := by
  simp only [cOp] at hc
  split at hc
  · rename_i fs z k by_ htd hz
    simp only [Option.bind_eq_some_iff, Option.map_eq_some_iff] at hc
    obtain ⟨pl, hpl, ps, hps, rfl⟩ := hc
    obtain ⟨i, v, hi, hv, rfl, rfl, rfl, hcl, hzl, hpos, _, _, hone⟩ := zeroInfo_spec hz
    simp only [eop, Option.map_eq_some_iff] at h
    obtain ⟨x, ⟨cs, hf, rfl⟩, rfl⟩ := h
    obtain ⟨h1, h2⟩ := cParts_spec hg ht hps
    obtain ⟨out', h3, h4⟩ := fill_rel (place := (pl[·]?)) _ _ _ _ _ h1 h2 (closedVs_rel φ _ hcl) hf
    refine .pure hs (v' := .agg ⟨out'⟩) ?_ (.agg h4)
    have hp := fieldPlaces_spec hpl w
    have hm : (fs.mapM fun f => do pure (f.offset, ← sizeOf f.type) : Sem (Array (Nat × Nat))).run P w = .ok pl.toArray w := by
      rw [Array.mapM_eq_mapM_toList]
      simp only [Sem.run_map, hp, Result.andThen_ok]
    simp only [execOp, Instr.build, Sem.run_bind, zeroValue, run_typeInfo' hi, hv, Sem.run_pure, Result.andThen_ok, run_underlying htd, hm]
    simp only [cellsL, Array.toArray_toList] at h3
    simp [h3]
  · rename_i k e z kk by_ htd hz
    simp only [Option.bind_eq_some_iff, Option.map_eq_some_iff] at hc
    obtain ⟨sz, hsz, ps, hps, rfl⟩ := hc
    obtain ⟨i, v, hi, hv, rfl, rfl, rfl, hcl, hzl, hpos, _, _, hone⟩ := zeroInfo_spec hz
    simp only [eop, Option.map_eq_some_iff] at h
    obtain ⟨x, ⟨cs, hf, rfl⟩, rfl⟩ := h
    obtain ⟨h1, h2⟩ := cParts_spec hg ht hps
    obtain ⟨out', h3, h4⟩ := fill_rel (place := fun i => some (i * sz, sz)) _ _ _ _ _ h1 h2 (closedVs_rel φ _ hcl) hf
    refine .pure hs (v' := .agg ⟨out'⟩) ?_ (.agg h4)
    simp only [execOp, Instr.build, Sem.run_bind, zeroValue, run_typeInfo' hi, hv, Sem.run_pure, Result.andThen_ok, run_underlying htd, run_sizeOf' hsz]
    simp only [cellsL, Array.toArray_toList] at h3
    simp [h3]
  · cases hc

theorem s_bslice (hg : GOk G φ) (ht : VRs φ T a.tmps.toList) {t : TypeId} {len : Nat} {parts : Array (Nat × Operand)} {n : NOp} (hc : cOp P G ⟨dst, .buildSlice t len parts, type, pos, after, guard⟩ = some n) (h : eop n T H = some r) : AllocR P φ H w a ⟨dst, .buildSlice t len parts, type, pos, after, guard⟩ r := by
  simp only [cOp] at hc
  split at hc
  case h_2 => cases hc
  rename_i e htd
  simp only [Option.bind_eq_some_iff] at hc
  obtain ⟨⟨z, sz, by_⟩, hz, hc⟩ := hc
  simp only at hc
  split at hc
  case isFalse => cases hc
  rename_i hlim
  simp only [Option.map_eq_some_iff] at hc
  obtain ⟨ps, hps, rfl⟩ := hc
  obtain ⟨i, v, hi, hv, rfl, rfl, rfl, hcl, hzl, hpos, _, _, hone⟩ := zeroInfo_spec hz
  simp only [eop, Option.map_eq_some_iff] at h
  obtain ⟨cs, hf, rfl⟩ := h
  obtain ⟨h1, h2⟩ := cParts_spec hg ht hps
  obtain ⟨out', h3, h4⟩ := fill_rel (place := fun j => some (j * i.size, i.size)) _ _ _ _ _ h1 h2 (zeroOf_rel (closedVs_rel φ _ hcl) len) hf
  refine ⟨fun b => .slice (some ⟨b, 0, none⟩) len len, _, rfl, .slice i.size h4 (fillN_one _ _ _ hf (zeroOf_one hone len)) (Nat.le_refl _) (el := e) ?_⟩
  have hsz : sizeI P e = some i.size := by simp [sizeI, hi]
  have hlim' : ¬ (16777216 < len * i.size) := by omega
  have hzs : v.cells.size = i.size := by simpa [cellsL] using hzl
  have hz2 := zeroArr_eq v.cells len (by omega)
  rw [hzs] at hz2
  simp only [cellsL] at h3
  by_cases h0 : len * i.size = 0
  · have hl0 : len = 0 := by
      rcases Nat.mul_eq_zero.1 h0 with h | h
      · exact h
      · omega
    subst hl0
    simp [zeroOf] at h3
    have h00 : ∀ f : Nat → Value, Array.map f (Array.range 0) = #[] := fun f => (by apply Array.ext'; simp)
    simp [execOp, Instr.buildSlice, run_underlying htd, run_sizeOf' hsz, h00, h3, newRow]
  · simp [execOp, Instr.buildSlice, run_underlying htd, run_sizeOf' hsz, hlim', h0, zeroValue, run_typeInfo' hi, hv, hzs, hz2, h3, newRow]

theorem s_load (hg : GOk G φ) (ht : VRs φ T a.tmps.toList) (hs : Sim φ H w) {t : TypeId} {x : Operand} {n : NOp} (hc : cOp P G ⟨dst, .load t x, type, pos, after, guard⟩ = some n) (h : eop n T H = some r) : OutR P φ H w a ⟨dst, .load t x, type, pos, after, guard⟩ r := by
  simp only [cOp] at hc
  split at hc
  case h_2 => cases hc
  rename_i d k hd hk
  simp only [Option.map_eq_some_iff] at hc
  obtain ⟨x', hx, hn⟩ := hc
  have rx := ev_rel hg ht hx
  by_cases ha : isAggD d = true
  · rw [if_pos ha] at hn
    subst hn
    simp only [eop] at h
    split at h
    case h_2 => cases h
    rename_i p hp
    rw [hp] at rx
    simp only [Option.map_eq_some_iff] at h
    obtain ⟨v, ⟨cs, hrow, rfl⟩, rfl⟩ := h
    generalize hax : a.eval x = ax at rx
    cases rx
    rename_i b m o hb
    obtain ⟨cs', h1, h2, h3⟩ := run_loadVar_rel (P := P) hs hd hk hb (cs := cs) (by rw [if_pos ha]; exact hrow)
    rw [if_pos ha] at h3
    refine .pure hs (v' := .agg cs'.toArray) ?_ (.agg h1)
    simp [execOp, hax, Instr.loadAt, Instr.sureAddr, h3]
  · rw [if_neg ha] at hn
    subst hn
    simp only [eop] at h
    split at h
    case h_2 => cases h
    rename_i p hp
    rw [hp] at rx
    simp only [Option.map_eq_some_iff, Option.bind_eq_some_iff] at h
    obtain ⟨v, ⟨cs, hrow, h0⟩, rfl⟩ := h
    generalize hax : a.eval x = ax at rx
    cases rx
    rename_i b m o hb
    obtain ⟨cs', h1, h2, h3⟩ := run_loadVar_rel (P := P) hs hd hk hb (cs := cs) (by rw [if_neg ha]; exact hrow)
    rw [if_neg ha] at h3
    obtain ⟨v', h4, h5⟩ := h1.get 0 v h0
    refine .pure hs (v' := v') ?_ h5
    have : cs'.getD 0 undef = v' := by simp [h4]
    rw [this] at h3
    simp [execOp, hax, Instr.loadAt, Instr.sureAddr, h3]

theorem s_store (hg : GOk G φ) (ht : VRs φ T a.tmps.toList) (hs : Sim φ H w) {t : TypeId} {x y : Operand} {n : NOp} (hc : cOp P G ⟨dst, .store t x y, type, pos, after, guard⟩ = some n) (h : eop n T H = some r) : OutR P φ H w a ⟨dst, .store t x y, type, pos, after, guard⟩ r := by
  simp only [cOp, Option.bind_eq_some_iff, Option.map_eq_some_iff] at hc
  obtain ⟨k, hk, x', hx, y', hy, rfl⟩ := hc
  have rx := ev_rel hg ht hx
  have ry := ev_rel hg ht hy
  simp only [eop] at h
  split at h
  case h_2 => cases h
  rename_i p hp
  rw [hp] at rx
  split at h
  case isFalse => cases h
  rename_i hl
  simp only [Option.map_eq_some_iff] at h
  obtain ⟨H', hrow, rfl⟩ := h
  generalize hax : a.eval x = ax at rx
  cases rx
  rename_i b m o hb
  obtain ⟨w', h1, h2⟩ := run_storeVar_rel (P := P) hs hk hb ry hl hrow
  exact ⟨.skip, w', φ, undef, by simp [execOp, hax, Instr.storeAt, Instr.sureAddr, h1], .inr ⟨rfl, rfl⟩, undefR φ, h2⟩

theorem s_nilchk (hg : GOk G φ) (ht : VRs φ T a.tmps.toList) (hs : Sim φ H w) {x : Operand} {n : NOp} (hc : cOp P G ⟨dst, .nilCheck x, type, pos, after, guard⟩ = some n) (h : eop n T H = some r) : OutR P φ H w a ⟨dst, .nilCheck x, type, pos, after, guard⟩ r := by
  simp only [cOp, Option.map_eq_some_iff] at hc
  obtain ⟨x', hx, rfl⟩ := hc
  have rx := ev_rel hg ht hx
  simp only [eop] at h
  split at h
  case h_3 => cases h
  · rename_i p hp
    cases h
    rw [hp] at rx
    generalize hax : a.eval x = ax at rx
    refine .pure hs (v' := ax) ?_ rx
    cases rx
    simp [execOp, hax]
  · rename_i f u v hp
    cases h
    rw [hp] at rx
    generalize hax : a.eval x = ax at rx
    refine .pure hs (v' := ax) ?_ rx
    cases rx <;> simp [execOp, hax]

theorem s_bin (hg : GOk G φ) (ht : VRs φ T a.tmps.toList) (hs : Sim φ H w) {op : BinOp} {t u : TypeId} {x y : Operand} {n : NOp} (hc : cOp P G ⟨dst, .binOp op t x y u, type, pos, after, guard⟩ = some n) (h : eop n T H = some r) : OutR P φ H w a ⟨dst, .binOp op t x y u, type, pos, after, guard⟩ r := by
  simp only [cOp, Option.bind_eq_some_iff] at hc
  obtain ⟨x', hx, y', hy, hc⟩ := hc
  have rx := ev_rel hg ht hx
  have ry := ev_rel hg ht hy
  have key : ∃ e, n = .bin op e x' y' ∧ ((op = .eql ∨ op = .neq) → eqTOf P 10 t = some e) := by
    split at hc
    · simp only [Option.map_eq_some_iff] at hc; obtain ⟨e, h1, rfl⟩ := hc; exact ⟨e, rfl, fun _ => h1⟩
    · simp only [Option.map_eq_some_iff] at hc; obtain ⟨e, h1, rfl⟩ := hc; exact ⟨e, rfl, fun _ => h1⟩
    · rename_i h1 h2; cases hc; exact ⟨_, rfl, fun h => by rcases h with rfl | rfl; exact absurd rfl h1; exact absurd rfl h2⟩
  obtain ⟨e, rfl, he⟩ := key
  simp only [eop, Option.map_eq_some_iff] at h
  obtain ⟨v, hv, rfl⟩ := h
  obtain ⟨h1, h2⟩ := bin_rel (P := P) rx ry hv he x y w
  refine .pure hs (v' := v) ?_ (plainV_rel h1 φ)
  simp only [Sem.run_bind] at h2
  simp only [execOp, Sem.run_bind, h2, Result.andThen_ok, Sem.run_pure]

theorem s_un (hg : GOk G φ) (ht : VRs φ T a.tmps.toList) (hs : Sim φ H w) {op : UnOp} {t : TypeId} {x : Operand} {n : NOp} (hc : cOp P G ⟨dst, .unOp op t x, type, pos, after, guard⟩ = some n) (h : eop n T H = some r) : OutR P φ H w a ⟨dst, .unOp op t x, type, pos, after, guard⟩ r := by
  simp only [cOp, Option.map_eq_some_iff] at hc
  obtain ⟨x', hx, rfl⟩ := hc
  have rx := ev_rel hg ht hx
  simp only [eop, Option.map_eq_some_iff] at h
  obtain ⟨v, hv, rfl⟩ := h
  obtain ⟨h1, h2⟩ := un_rel (P := P) rx hv w
  exact .pure hs (v' := v) (by simp [execOp, h2]) (plainV_rel h1 φ)

theorem s_convert (hg : GOk G φ) (ht : VRs φ T a.tmps.toList) (hs : Sim φ H w) {s d : TypeId} {x : Operand} {n : NOp} (hc : cOp P G ⟨dst, .convert s d x, type, pos, after, guard⟩ = some n) (h : eop n T H = some r) : OutR P φ H w a ⟨dst, .convert s d x, type, pos, after, guard⟩ r := by
  simp only [cOp] at hc
  split at hc
  · rename_i k k' h1 h2
    simp only [Option.map_eq_some_iff] at hc
    obtain ⟨x', hx, rfl⟩ := hc
    have rx := ev_rel hg ht hx
    simp only [eop] at h
    split at h
    case h_2 => cases h
    rename_i hp
    rw [hp] at rx
    cases h
    generalize hax : a.eval x = ax at rx
    cases rx
    refine .pure hs ?_ (.int _ _)
    simp [execOp, hax, convert, run_underlying h1, run_underlying h2, Conv.intToInt]
  · rename_i h1 h2
    simp only [Option.map_eq_some_iff] at hc
    obtain ⟨x', hx, rfl⟩ := hc
    have rx := ev_rel hg ht hx
    simp only [eop] at h
    split at h
    case h_2 => cases h
    rename_i hp
    rw [hp] at rx
    cases h
    generalize hax : a.eval x = ax at rx
    cases rx
    refine .pure hs ?_ (.str _)
    simp [execOp, hax, convert, run_underlying h1, run_underlying h2]
  · rename_i k h1 h2
    simp only [Option.map_eq_some_iff] at hc
    obtain ⟨x', hx, rfl⟩ := hc
    have rx := ev_rel hg ht hx
    simp only [eop] at h
    split at h
    case h_2 => cases h
    rename_i hp
    rw [hp] at rx
    cases h
    generalize hax : a.eval x = ax at rx
    cases rx
    refine .pure hs ?_ (.str _)
    simp [execOp, hax, convert, run_underlying h1, run_underlying h2, Conv.intToString]
  · rename_i e h1 h2
    split at hc
    case h_2 => cases hc
    rename_i h3
    simp only [Option.map_eq_some_iff] at hc
    obtain ⟨x', hx, rfl⟩ := hc
    have rx := ev_rel hg ht hx
    simp only [eop, Option.map_eq_some_iff] at h
    obtain ⟨v, hv, rfl⟩ := h
    obtain ⟨s, rfl, hrun⟩ := b2s_rel (P := P) hs rx hv
    refine .pure hs (v' := .string s) ?_ (.str _)
    have hsl : ∃ b l c, a.eval x = .slice b l c := by
      generalize x'.ev T = y at rx hv
      generalize a.eval x = z at rx
      cases rx <;> simp [b2sN] at hv <;> exact ⟨_, _, _, rfl⟩
    obtain ⟨b, l, c, he⟩ := hsl
    rw [he] at hrun
    simp [execOp, he, convert, run_underlying h1, run_underlying h2, run_underlying h3, hrun]
  · rename_i e h1 h2
    split at hc
    case h_2 => cases hc
    rename_i h3
    simp only [Option.map_eq_some_iff] at hc
    obtain ⟨x', hx, rfl⟩ := hc
    have rx := ev_rel hg ht hx
    simp only [eop] at h
    split at h
    case h_2 => cases h
    rename_i st hp
    rw [hp] at rx
    split at h
    case isFalse => cases h
    cases h
    generalize hax : a.eval x = ax at rx
    cases rx
    obtain ⟨v', w', φ', h5, h6, h7⟩ := s2b_rel (P := P) hs h1 h2 h3 st
    exact ⟨_, w', φ', v', by simp [execOp, hax, h5], .inl rfl, h6, h7⟩
  · rename_i e0 e h1 h2
    split at hc
    case h_2 => cases hc
    rename_i h3 h4
    simp only [Option.map_eq_some_iff] at hc
    obtain ⟨x', hx, rfl⟩ := hc
    have rx := ev_rel hg ht hx
    simp only [eop] at h
    split at h
    case h_2 => cases h
    rename_i ad l c hp
    rw [hp] at rx
    split at h
    · cases h
    rename_i hc0
    split at h
    case h_2 => cases h
    rename_i cs es hgt
    cases h
    generalize hax : a.eval x = ax at rx
    cases rx with
    | slEmpty => exact absurd rfl hc0
    | sl hb hl hcc =>
      rename_i b m o c'
      obtain ⟨w', h5, h6⟩ := same_rel (P := P) hs hb (by rw [hgt]; rfl) hgt (m.sh + o)
      refine ⟨_, w', φ, _, ?_, .inl rfl, .sl hb hl hcc, h6⟩
      have hsd : (s == d) = true := h3
      simp [execOp, hax, convert, run_underlying h1, run_underlying h2, run_underlying h4, hsd, h5]
  · cases hc

theorem s_mkfunc (hg : GOk G φ) (ht : VRs φ T a.tmps.toList) (hs : Sim φ H w) {f : Nat} {x y : Array Operand} {n : NOp} (hc : cOp P G ⟨dst, .makeFunc (.func f) x y, type, pos, after, guard⟩ = some n) (h : eop n T H = some r) : OutR P φ H w a ⟨dst, .makeFunc (.func f) x y, type, pos, after, guard⟩ r := by
  simp only [cOp, Option.bind_eq_some_iff, Option.map_eq_some_iff] at hc
  obtain ⟨x', hx, y', hy, rfl⟩ := hc
  simp only [eop, Option.some.injEq] at h
  subst h
  refine .pure hs ?_ (.func f (evs_rel hg ht hx) (evs_rel hg ht hy))
  simp [execOp, Instr.makeFunc]
  constructor <;> (apply Array.ext'; simp)

theorem s_mkmap {t : TypeId} {n : NOp} (hc : cOp P G ⟨dst, .makeMap t none, type, pos, after, guard⟩ = some n) (h : eop n T H = some r) : AllocR P φ H w a ⟨dst, .makeMap t none, type, pos, after, guard⟩ r := by
  simp only [cOp, Option.some.injEq] at hc
  subst hc
  simp only [eop, Option.some.injEq] at h
  subst h
  exact ⟨fun b => .map (some b), _, rfl, ⟨w.heap.size, 0, 0, 0, 0⟩, .map #[] 0, _, rfl, by simp [execOp, Instr.makeMap], fun b ψ hle hb => ⟨⟨#[], heap_alloc_new w _, .nil⟩, .map hb⟩⟩

theorem s_mkslice (hg : GOk G φ) (ht : VRs φ T a.tmps.toList) {t : TypeId} {x y : Operand} {n : NOp} (hc : cOp P G ⟨dst, .makeSlice t x y, type, pos, after, guard⟩ = some n) (h : eop n T H = some r) : AllocR P φ H w a ⟨dst, .makeSlice t x y, type, pos, after, guard⟩ r := by
  simp only [cOp] at hc
  split at hc
  case h_2 => cases hc
  rename_i e htd
  simp only [Option.bind_eq_some_iff, Option.map_eq_some_iff] at hc
  obtain ⟨⟨z, sz, by_⟩, hz, x', hx, y', hy, rfl⟩ := hc
  obtain ⟨i, v, hi, hv, rfl, rfl, rfl, hcl, hzl, hpos, hb0, hb1, hone⟩ := zeroInfo_spec hz
  have rx := ev_rel hg ht hx
  have ry := ev_rel hg ht hy
  simp only [eop] at h
  split at h
  case h_2 => cases h
  rename_i kl l kc c hp1 hp2
  rw [hp1] at rx
  rw [hp2] at ry
  split at h
  case isFalse => cases h
  rename_i hcond
  obtain ⟨c1, c2, c3⟩ := hcond
  cases h
  generalize hax : a.eval x = ax at rx
  generalize hay : a.eval y = ay at ry
  cases rx; cases ry
  have hlim : limit = 2147483648 := rfl
  have wl : IntKind.i64.wrap l = l := by simp [IntKind.wrap, IntKind.signed, IntKind.bits]; omega
  have wc : IntKind.i64.wrap c = c := by simp [IntKind.wrap, IntKind.signed, IntKind.bits]; omega
  obtain ⟨c0, rfl⟩ := Int.eq_ofNat_of_zero_le (show 0 ≤ c by omega)
  obtain ⟨l0, rfl⟩ := Int.eq_ofNat_of_zero_le c1
  have hmul : i.bytes * c0 ≤ 65536 * 2147483648 := Nat.mul_le_mul hb1 (by omega)
  have h1 : ¬ ((c0 : Int) < 0) := by omega
  have h2 : ¬ ((281474976710656 : Int) < (i.bytes : Int) * (c0 : Int)) := by
    have : ((i.bytes : Int) * (c0 : Int)) = ((i.bytes * c0 : Nat) : Int) := by simp
    omega
  have h3 : ¬ ((l0 : Int) < 0) := by omega
  have h4 : ¬ ((c0 : Int) < (l0 : Int)) := by omega
  have hzs : v.cells.size = i.size := by simpa [cellsL] using hzl
  have hz2 := zeroArr_eq v.cells c0 (by omega)
  refine ⟨fun b => .slice (some ⟨b, 0, none⟩) l0 c0, _, rfl, .slice i.size (zeroOf_rel (closedVs_rel φ _ hcl) c0) (zeroOf_one hone c0) (show l0 ≤ c0 by omega) (el := e) ?_⟩
  have hsz : sizeI P e = some i.size := by simp [sizeI, hi]
  by_cases h0 : c0 * i.size = 0
  · have hl0 : c0 = 0 := by
      rcases Nat.mul_eq_zero.1 h0 with h | h
      · exact h
      · omega
    subst hl0
    obtain rfl : l0 = 0 := by omega
    have h00 : ∀ f : Nat → Value, Array.map f (Array.range 0) = #[] := fun f => (by apply Array.ext'; simp)
    have w0 : IntKind.i64.wrap 0 = 0 := by decide
    simp [execOp, hax, hay, Instr.makeSlice, run_underlying htd, asInt, asIntOf, run_typeInfo' hi, run_sizeOf' hsz, w0, h00, newRow, zeroOf]
  · simp [execOp, hax, hay, Instr.makeSlice, run_underlying htd, asInt, asIntOf, run_typeInfo' hi, run_sizeOf' hsz, wl, wc, h1, h2, h3, h4, h0, zeroValue, hv, newRow, hz2, hzs, cellsL]
    rw [← hzs, hz2]

/-! ### addresses, cuts, parts -/
theorem s_faddr (hg : GOk G φ) (ht : VRs φ T a.tmps.toList) (hs : Sim φ H w) {t : TypeId} {x : Operand} {f : Nat} {n : NOp} (hc : cOp P G ⟨dst, .fieldAddr t x f, type, pos, after, guard⟩ = some n) (h : eop n T H = some r) : OutR P φ H w a ⟨dst, .fieldAddr t x f, type, pos, after, guard⟩ r := by
  simp only [cOp] at hc
  split at hc
  case h_2 => cases hc
  rename_i fs htd
  split at hc
  case h_2 => cases hc
  rename_i fd hfd
  simp only [Option.bind_eq_some_iff] at hc
  obtain ⟨k, hk, hc⟩ := hc
  split at hc
  case isFalse => cases hc
  rename_i hpos
  simp only [Option.map_eq_some_iff] at hc
  obtain ⟨x', hx, rfl⟩ := hc
  have rx := ev_rel hg ht hx
  simp only [eop] at h
  split at h
  case h_2 => cases h
  rename_i p hp
  rw [hp] at rx
  cases h
  generalize hax : a.eval x = ax at rx
  cases rx
  rename_i b m o hb
  refine .pure hs (v' := .pointer (some ⟨m.blk, m.sh + (o + fd.offset), none⟩)) ?_ (.ptr _ hb)
  have hk0 : ¬ k = 0 := by omega
  simp [execOp, hax, Instr.fieldAt, run_underlying htd, hfd, Instr.sureAddr, fieldPlace, run_sizeOf' hk, hk0, addA, Nat.add_assoc]

theorem s_field (hg : GOk G φ) (ht : VRs φ T a.tmps.toList) (hs : Sim φ H w) {t : TypeId} {x : Operand} {f : Nat} {n : NOp} (hc : cOp P G ⟨dst, .field t x f, type, pos, after, guard⟩ = some n) (h : eop n T H = some r) : OutR P φ H w a ⟨dst, .field t x f, type, pos, after, guard⟩ r := by
  simp only [cOp] at hc
  split at hc
  case h_2 => cases hc
  rename_i fs htd
  split at hc
  case h_2 => cases hc
  rename_i fd hfd
  split at hc
  case h_2 => cases hc
  rename_i d k hd hk
  simp only [Option.map_eq_some_iff] at hc
  obtain ⟨x', hx, rfl⟩ := hc
  have rx := ev_rel hg ht hx
  simp only [eop] at h
  split at h
  case h_2 => cases h
  rename_i cs hp
  rw [hp] at rx
  have hv : ∃ v, r = .val v H ∧ partN cs.toList fd.offset (if isAggD d then some k else none) = some v := by
    split at h
    · rename_i he
      simp only [Option.map_eq_some_iff] at h
      obtain ⟨v, h1, rfl⟩ := h
      exact ⟨v, rfl, by rw [he]; exact h1⟩
    · rename_i kk he
      split at h
      case isFalse => cases h
      rename_i hle
      cases h
      exact ⟨_, rfl, by rw [he]; simp only [partN]; rw [if_pos hle]⟩
  obtain ⟨v, rfl, hv⟩ := hv
  generalize hax : a.eval x = ax at rx
  cases rx
  rename_i xs xs' hxs
  obtain ⟨v', h1, h2⟩ := partN_rel hxs _ _ hv
  refine .pure hs (v' := v') ?_ h2
  have := run_partN (P := P) hd hk ⟨xs'⟩ fd.offset h1 w
  simp [execOp, hax, Instr.field, run_underlying htd, hfd, asAgg, this]

theorem s_iaddr (hg : GOk G φ) (ht : VRs φ T a.tmps.toList) (hs : Sim φ H w) {t : TypeId} {x y : Operand} {n : NOp} (hc : cOp P G ⟨dst, .indexAddr t x y, type, pos, after, guard⟩ = some n) (h : eop n T H = some r) : OutR P φ H w a ⟨dst, .indexAddr t x y, type, pos, after, guard⟩ r := by
  simp only [cOp, Option.bind_eq_some_iff] at hc
  obtain ⟨x', hx, y', hy, hc⟩ := hc
  have rx := ev_rel hg ht hx
  have ry := ev_rel hg ht hy
  split at hc
  · rename_i e htd
    simp only [Option.map_eq_some_iff] at hc
    obtain ⟨k, hk, rfl⟩ := hc
    simp only [eop] at h
    split at h
    case h_2 => cases h
    rename_i ad l c kd i hp1 hp2
    rw [hp1] at rx
    rw [hp2] at ry
    split at h
    case isFalse => cases h
    rename_i hi
    cases h
    generalize hax : a.eval x = ax at rx
    generalize hay : a.eval y = ay at ry
    cases ry
    cases rx with
    | slEmpty => omega
    | sl hb hl hcc =>
      rename_i b m o c'
      refine .pure hs (v' := .pointer (some ⟨m.blk, m.sh + (o + i.toNat * k), none⟩)) ?_ (.ptr _ hb)
      simp [execOp, hax, hay, Instr.indexAt, asIntOf, run_underlying htd, run_sizeOf' hk, addA, hi, Nat.add_assoc]
  · rename_i len e htd
    simp only [Option.map_eq_some_iff] at hc
    obtain ⟨k, hk, rfl⟩ := hc
    simp only [eop] at h
    split at h
    case h_2 => cases h
    rename_i ad kd i hp1 hp2
    rw [hp1] at rx
    rw [hp2] at ry
    split at h
    case isFalse => cases h
    rename_i hi
    cases h
    generalize hax : a.eval x = ax at rx
    generalize hay : a.eval y = ay at ry
    cases ry
    cases rx
    rename_i b m o hb
    refine .pure hs (v' := .pointer (some ⟨m.blk, m.sh + (o + i.toNat * k), none⟩)) ?_ (.ptr _ hb)
    simp [execOp, hax, hay, Instr.indexAt, asIntOf, run_underlying htd, Instr.sureAddr, run_sizeOf' hk, addA, hi, Nat.add_assoc]
  · cases hc

theorem s_index (hg : GOk G φ) (ht : VRs φ T a.tmps.toList) (hs : Sim φ H w) {t : TypeId} {x y : Operand} {n : NOp} (hc : cOp P G ⟨dst, .index t x y, type, pos, after, guard⟩ = some n) (h : eop n T H = some r) : OutR P φ H w a ⟨dst, .index t x y, type, pos, after, guard⟩ r := by
  simp only [cOp, Option.bind_eq_some_iff] at hc
  obtain ⟨x', hx, y', hy, hc⟩ := hc
  have rx := ev_rel hg ht hx
  have ry := ev_rel hg ht hy
  split at hc
  · rename_i htd
    cases hc
    simp only [eop] at h
    split at h
    case h_2 => cases h
    rename_i s kd i hp1 hp2
    rw [hp1] at rx
    rw [hp2] at ry
    split at h
    case isFalse => cases h
    rename_i hi
    simp only [Option.map_eq_some_iff] at h
    obtain ⟨v, ⟨bt, hb, rfl⟩, rfl⟩ := h
    generalize hax : a.eval x = ax at rx
    generalize hay : a.eval y = ay at ry
    cases rx; cases ry
    refine .pure hs (v' := .int .u8 bt.toNat) ?_ (.int _ _)
    have hb' : s[i.toNat]? = some bt := by
      obtain ⟨h1, h2⟩ := List.getElem?_eq_some_iff.1 hb
      have h1' : i.toNat < s.size := by simpa using h1
      rw [getElem?_pos s i.toNat h1']
      congr 1
    simp [execOp, hax, hay, Instr.index, asIntOf, run_underlying htd, hi, hb']
  · rename_i len e htd
    split at hc
    case h_2 => cases hc
    rename_i d k hd hk
    cases hc
    simp only [eop] at h
    split at h
    case h_2 => cases h
    rename_i cs kd i hp1 hp2
    rw [hp1] at rx
    rw [hp2] at ry
    split at h
    case isFalse => cases h
    rename_i hi
    have hv : ∃ v, r = .val v H ∧ partN cs.toList (i.toNat * k) (if isAggD d then some k else none) = some v := by
      split at h
      · rename_i he
        simp only [Option.map_eq_some_iff] at h
        obtain ⟨v, h1, rfl⟩ := h
        exact ⟨v, rfl, by rw [he]; exact h1⟩
      · rename_i kk he
        split at h
        case isFalse => cases h
        rename_i hle
        cases h
        exact ⟨_, rfl, by rw [he]; simp only [partN]; rw [if_pos hle]⟩
    obtain ⟨v, rfl, hv⟩ := hv
    generalize hax : a.eval x = ax at rx
    generalize hay : a.eval y = ay at ry
    cases rx; cases ry
    rename_i xs xs' hxs
    obtain ⟨v', h1, h2⟩ := partN_rel hxs _ _ hv
    refine .pure hs (v' := v') ?_ h2
    have := run_partN (P := P) hd hk ⟨xs'⟩ _ h1 w
    simp [execOp, hax, hay, Instr.index, asIntOf, run_underlying htd, run_sizeOf' hk, hi, this]
  · cases hc

theorem s_slice (hg : GOk G φ) (ht : VRs φ T a.tmps.toList) (hs : Sim φ H w) {t : TypeId} {x : Operand} {lo hi mx : Option Operand} {n : NOp} (hc : cOp P G ⟨dst, .slice t x lo hi mx, type, pos, after, guard⟩ = some n) (h : eop n T H = some r) : OutR P φ H w a ⟨dst, .slice t x lo hi mx, type, pos, after, guard⟩ r := by
  simp only [cOp] at hc
  split at hc
  case isTrue => cases hc
  rename_i hne0
  have hne : ¬ (mx.isSome = true ∧ hi = none) := by
    cases mx <;> cases hi <;> simp_all
  simp only [Option.bind_eq_some_iff] at hc
  obtain ⟨x', hx, lo', hlo, hi', hhi, mx', hmx, hc⟩ := hc
  have rx := ev_rel hg ht hx
  have rlo := opt_rel hg ht hlo
  have rhi := opt_rel hg ht hhi
  have rmx := opt_rel hg ht hmx
  have hne' : ¬ ((mx.map a.eval).isSome = true ∧ hi.map a.eval = none) := by
    cases mx <;> cases hi <;> simp_all
  split at hc
  · -- a slice
    rename_i e htd
    simp only [Option.bind_eq_some_iff] at hc
    obtain ⟨k, hk, hc⟩ := hc
    split at hc
    case isFalse => cases hc
    rename_i hpos
    cases hc
    simp only [eop] at h
    split at h
    case h_2 => cases h
    rename_i ad l c hp
    rw [hp] at rx
    simp only [Option.bind_eq_some_iff] at h
    obtain ⟨⟨i, hh, m⟩, hb, h⟩ := h
    simp only at h
    generalize hax : a.eval x = ax at rx
    cases rx with
    | slNil =>
      cases h
      obtain ⟨b1, b2, b3, b4, b5⟩ := run_sliceBounds (P := P) rlo rhi rmx true hb (Nat.le_refl _) (fun _ _ => trivial) hne' w
      obtain rfl : m = 0 := by omega
      obtain rfl : hh = 0 := by omega
      obtain rfl : i = 0 := by omega
      refine .pure hs (v' := .slice none 0 0) ?_ .slNil
      simp only [ite_self] at b5
      simp [execOp, hax, Instr.sliceAt, Instr.slice, run_underlying htd, b5, run_sizeOf' hk]
    | slEmpty a0 a1 hbe =>
      simp only [if_true] at h
      cases h
      obtain ⟨b1, b2, b3, b4, b5⟩ := run_sliceBounds (P := P) rlo rhi rmx true hb (Nat.le_refl _) (fun _ _ => trivial) hne' w
      obtain rfl : m = 0 := by omega
      obtain rfl : hh = 0 := by omega
      obtain rfl : i = 0 := by omega
      refine .pure hs (v' := .slice (some a1) 0 0) ?_ (.slEmpty _ _ hbe)
      simp only [ite_self] at b5
      simp [execOp, hax, Instr.sliceAt, Instr.slice, run_underlying htd, b5, run_sizeOf' hk]
    | sl hbm hl hcc =>
      rename_i b mm o c'
      have hle : c ≤ c' := by rcases hcc with h | h <;> omega
      obtain ⟨b1, b2, b3, b4, b5⟩ := run_sliceBounds (P := P) rlo rhi rmx true hb hle (fun _ _ => trivial) hne' w
      simp only at h
      by_cases hc0 : c = 0
      · subst hc0
        simp only [if_true] at h
        cases h
        obtain rfl : m = 0 := by omega
        obtain rfl : hh = 0 := by omega
        obtain rfl : i = 0 := by omega
        obtain rfl : l = 0 := by omega
        by_cases hmn : mx.map a.eval = none
        · rw [if_pos hmn] at b5
          refine .pure hs (v' := .slice (some ⟨mm.blk, mm.sh + o, none⟩) 0 c') ?_ (.sl hbm hl hcc)
          simp [execOp, hax, Instr.sliceAt, Instr.slice, run_underlying htd, b5, run_sizeOf' hk, addA]
        · rw [if_neg hmn] at b5
          refine .pure hs (v' := .slice (some ⟨mm.blk, mm.sh + o, none⟩) 0 0) ?_ (.slEmpty _ _ hbm)
          simp [execOp, hax, Instr.sliceAt, Instr.slice, run_underlying htd, b5, run_sizeOf' hk, addA]
      · rw [if_neg hc0] at h
        split at h
        case h_2 => cases h
        rename_i full es' ro hgt
        split at h
        case isFalse => cases h
        rename_i hes
        cases h
        have ho := hs.obj _ _ hbm
        rw [hgt] at ho
        obtain ⟨g1, g2, g3, g4⟩ := ho
        obtain ⟨M, hM⟩ : ∃ M, M = (if mx.map a.eval = none then c' else m) := ⟨_, rfl⟩
        rw [← hM] at b5
        have hMi : i ≤ M := by rw [hM]; split <;> omega
        have hrun : (execOp a.eval ⟨dst, .slice t x lo hi mx, type, pos, after, guard⟩).run P w = .ok (.value (.slice (if M = i then some ⟨mm.blk, mm.sh + o, none⟩ else some ⟨mm.blk, mm.sh + o + i * k, none⟩) (hh - i) (M - i))) w := by
          simp [execOp, hax, Instr.sliceAt, Instr.slice, run_underlying htd, b5, run_sizeOf' hk, addA]
        by_cases hMe : M = i
        · have hm : m = i := by
            have : m ≤ M := by rw [hM]; split <;> omega
            omega
          have hh' : hh = i := by omega
          rw [if_pos hMe] at hrun
          refine .pure hs hrun ?_
          rw [hMe, hh', hm]
          simp only [Nat.sub_self]
          exact .slEmpty _ _ hbm
        · rw [if_neg hMe] at hrun
          refine .pure hs hrun ?_
          rw [Nat.add_assoc]
          refine .sl hbm (by omega) ?_
          rw [hM]
          by_cases hmn : mx.map a.eval = none
          · rw [if_pos hmn]
            have := b4 hmn
            subst this
            rcases hcc with h | ⟨q1, q2, q3, q4⟩
            · left; omega
            · have hek : es' = k := by
                rcases hes with h | h
                · omega
                · exact h
              have hmk : mm.es = k := by omega
              rw [hmk] at q2 q3 q4 ⊢
              have hi1 : i * k ≤ m * k := Nat.mul_le_mul_right k (by omega)
              have hi2 : i * k ≤ c' * k := Nat.mul_le_mul_right k (by omega)
              right
              refine ⟨by omega, q2, ?_, ?_⟩
              · rw [Nat.sub_mul]; omega
              · rw [Nat.sub_mul]; omega
          · rw [if_neg hmn]; left; rfl
  · -- a string
    rename_i htd
    split at hc
    case isFalse => cases hc
    rename_i hmn
    cases hc
    simp only [eop] at h
    split at h
    case h_2 => cases h
    rename_i s hp
    rw [hp] at rx
    simp only [Option.bind_eq_some_iff] at h
    obtain ⟨⟨i, hh, m⟩, hb, h⟩ := h
    cases h
    generalize hax : a.eval x = ax at rx
    cases rx
    have hmx : mx = none := by
      cases mx with
      | none => rfl
      | some z => simp only [cOpt, Option.map_eq_some_iff] at hmx; obtain ⟨_, _, rfl⟩ := hmx; simp at hmn
    obtain ⟨b1, b2, b3, b4, b5⟩ := run_sliceBounds (P := P) rlo rhi (mx := none) (mx' := none) (.inl ⟨rfl, rfl⟩) false hb (Nat.le_refl _) (fun _ _ => trivial) (by simp) w
    subst hmx
    refine .pure hs ?_ (.str _)
    simp only [if_true] at b5
    simp [execOp, hax, Instr.sliceAt, Instr.slice, run_underlying htd, b5]
  · -- an array, by its address
    rename_i len e htd
    simp only [Option.bind_eq_some_iff] at hc
    obtain ⟨k, hk, hc⟩ := hc
    split at hc
    case isFalse => cases hc
    rename_i hpos
    cases hc
    simp only [eop] at h
    split at h
    case h_2 => cases h
    rename_i ad hp
    rw [hp] at rx
    simp only [Option.bind_eq_some_iff] at h
    obtain ⟨⟨i, hh, m⟩, hb, h⟩ := h
    simp only at h
    split at h
    case h_2 => cases h
    cases h
    generalize hax : a.eval x = ax at rx
    obtain ⟨b, mm, o, rfl, rfl, hbm⟩ : ∃ b mm o, ad = ⟨b, o, none⟩ ∧ ax = .pointer (some ⟨Emb.blk mm, mm.sh + o, none⟩) ∧ φ b = some mm := by
      cases rx with
      | ptr o hbm => exact ⟨_, _, o, rfl, rfl, hbm⟩
    obtain ⟨b1, b2, b3, b4, b5⟩ := run_sliceBounds (P := P) rlo rhi rmx false hb (Nat.le_refl _) (fun _ _ => trivial) hne' w
    have hM : (if mx.map a.eval = none then len else m) = m := by
      split
      · rename_i h; exact (b4 h).symm
      · rfl
    rw [hM] at b5
    have hrun : (execOp a.eval ⟨dst, .slice t x lo hi mx, type, pos, after, guard⟩).run P w = .ok (.value (.slice (if m = i then some ⟨mm.blk, mm.sh + o, none⟩ else some ⟨mm.blk, mm.sh + o + i * k, none⟩) (hh - i) (m - i))) w := by
      simp [execOp, hax, Instr.sliceAt, Instr.sureAddr, run_underlying htd, b5, run_sizeOf' hk, addA]
      split <;> rfl
    by_cases hMe : m = i
    · have hh' : hh = i := by omega
      rw [if_pos hMe] at hrun
      refine .pure hs hrun ?_
      rw [hMe, hh']
      simp only [Nat.sub_self]
      exact .slEmpty _ _ hbm
    · rw [if_neg hMe] at hrun
      refine .pure hs hrun ?_
      rw [Nat.add_assoc]
      exact .sl hbm (by omega) (.inl rfl)
  · cases hc

end
end Go.E
