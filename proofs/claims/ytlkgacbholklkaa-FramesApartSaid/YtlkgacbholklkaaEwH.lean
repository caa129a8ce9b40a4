/-
  THE EVALUATOR, PART H: maps, copy, clear, conversions, cuts.
-/
import Derived.Test.YtlkgacbholklkaaEwG
set_option linter.unusedSimpArgs false
set_option linter.unusedVariables false
namespace Go.E
open Go Go.MapKept
variable {P : Program}
theorem keyOk_isKey {d : TypeDesc} {k : Value} (h : keyOk d k = true) : IsKey d k := by
  cases d <;> cases k <;> simp_all [keyOk, IsKey]

theorem keyOk_plain {d : TypeDesc} {k : Value} (h : keyOk d k = true) : plainV k = true := by
  cases d <;> cases k <;> simp_all [keyOk, plainV]

theorem plain_eq {φ : Phi} {k k' : Value} (h : VR φ k k') (hk : plainV k = true) : k' = k := by
  cases h <;> simp_all [plainV]

theorem findNow_rel {φ : Phi} {d : TypeDesc} {k : Value} : ∀ {es es' : List MapEntry} (i : Nat), ERs φ es es' →
    (Instr.findNow d k es i = some none → Instr.findNow d k es' i = some none) ∧
    (∀ j v, Instr.findNow d k es i = some (some (j, v)) → ∃ v', Instr.findNow d k es' i = some (some (j, v')) ∧ VR φ v v')
  | _, _, i, .nil => ⟨fun h => h, fun j v h => by simp [Instr.findNow] at h⟩
  | _, _, i, .cons hk hb hv h => by
    obtain ⟨h1, h2⟩ := findNow_rel (d := d) (k := k) (i + 1) h
    simp only [Instr.findNow, hk]
    generalize Instr.sameNow d k _ = s
    cases s with
    | none => exact ⟨fun h => h, fun j v h => (by cases h)⟩
    | some s =>
      cases s with
      | true => exact ⟨fun h => (by cases h), fun j v h => (by cases h; exact ⟨_, rfl, hv⟩)⟩
      | false => exact ⟨h1, h2⟩

theorem findNow_at {d : TypeDesc} {k : Value} : ∀ {es : List MapEntry} (i j : Nat) (v : Value), Instr.findNow d k es i = some (some (j, v)) → ∃ n e, j = i + n ∧ es[n]? = some e ∧ Instr.sameNow d k e.key = some true
  | [], i, j, v, h => by simp [Instr.findNow] at h
  | e :: es, i, j, v, h => by
    simp only [Instr.findNow] at h
    split at h
    · rename_i hs; cases h; exact ⟨0, e, rfl, rfl, hs⟩
    · obtain ⟨n, e', h1, h2, h3⟩ := findNow_at (i + 1) j v h
      exact ⟨n + 1, e', by omega, by simpa using h2, h3⟩
    · cases h

theorem sameNow_bits {d : TypeDesc} {k e : Value} (h : Instr.sameNow d k e = some true) : Instr.sameBits 10000 e k = true := by
  unfold Instr.sameNow at h
  split at h
  · split at h
    case isFalse => cases h
    rename_i hk
    subst hk
    simp at h
    simp [Instr.sameBits, h]
  · simp only [Option.some.injEq] at h
    rw [bytes_beq] at h
    subst h
    simp only [Instr.sameBits]
    rw [bytes_beq]
  · simp at h
    simp [Instr.sameBits, h]
  · cases h

theorem ERs.length {φ : Phi} : ∀ {a b : List MapEntry}, ERs φ a b → a.length = b.length
  | _, _, .nil => rfl
  | _, _, .cons _ _ _ h => by simp [ERs.length h]

theorem ERs.get {φ : Phi} : ∀ {a b : List MapEntry}, ERs φ a b → ∀ (i : Nat) e, a[i]? = some e → ∃ e', b[i]? = some e' ∧ e'.key = e.key ∧ e'.born = e.born ∧ VR φ e.val e'.val
  | _, _, .nil, i, e, h => by simp at h
  | _, _, .cons a b c t, 0, e, h => by simp at h; subst h; exact ⟨_, by simp, a, b, c⟩
  | _, _, .cons a b c t, i + 1, e, h => by simpa using ERs.get t i e (by simpa using h)

theorem ERs.modify {φ : Phi} {v v' k : Value} (hv : VR φ v v') : ∀ {a b : List MapEntry} (i : Nat), ERs φ a b → ERs φ (a.modify i fun e => { e with key := k, val := v }) (b.modify i fun e => { e with key := k, val := v' })
  | _, _, i, .nil => by simp; exact .nil
  | _, _, 0, .cons a b c t => by simp; exact .cons rfl b hv t
  | _, _, i + 1, .cons a b c t => by simp; exact .cons a b c (ERs.modify hv i t)

theorem ERs.push {φ : Phi} {e e' : MapEntry} (hk : e'.key = e.key) (hb : e'.born = e.born) (hv : VR φ e.val e'.val) : ∀ {a b : List MapEntry}, ERs φ a b → ERs φ (a ++ [e]) (b ++ [e'])
  | _, _, .nil => .cons hk hb hv .nil
  | _, _, .cons a b c t => .cons a b c (ERs.push hk hb hv t)

theorem ERs.erase {φ : Phi} : ∀ {a b : List MapEntry} (i : Nat), ERs φ a b → ERs φ (a.eraseIdx i) (b.eraseIdx i)
  | _, _, i, .nil => by simp; exact .nil
  | _, _, 0, .cons a b c t => by simpa using t
  | _, _, i + 1, .cons a b c t => by simp; exact .cons a b c (ERs.erase i t)

theorem ERs.tab {φ : Phi} {es es' : List MapEntry} (h : ERs φ es es') : TabR φ es es' :=
  ⟨h.length.symm, fun d k _ => ⟨(findNow_rel 0 h).1, fun j v hv => let ⟨v', h1, h2⟩ := (findNow_rel 0 h).2 j v hv; ⟨j, v', h1, h2⟩⟩⟩

/-! ### maps -/
theorem mapOf_rel {φ : Phi} {H : AHeap} {w : World} (hs : Sim φ H w) {m m' : Value} (hm : VR φ m m') {es : List MapEntry} (h : H.mapOf m = some es) :
    (m' = .map none ∧ es = []) ∨ ∃ r es' clock, m' = .map (some r) ∧ w.heap[r]? = some (.map es' clock) ∧ TabR φ es es'.toList := by
  cases hm <;> simp [AHeap.mapOf] at h
  · exact .inl ⟨rfl, h⟩
  · rename_i b m hb
    split at h <;> cases h
    · rename_i es clock hg
      have ho := hs.obj _ _ hb
      rw [hg] at ho
      obtain ⟨es', h1, h2⟩ := ho
      exact .inr ⟨_, es', clock, rfl, h1, h2.tab⟩
    · rename_i hg
      have ho := hs.obj _ _ hb
      rw [hg] at ho
      obtain ⟨es', clock, h1, h2⟩ := ho
      exact .inr ⟨_, es', clock, rfl, h1, h2⟩

theorem run_zeroValue' {t : TypeId} {z : Value} (h : zeroVal P t = some z) (w : World) : closedV z = true ∧ (zeroValue t).run P w = .ok z w := by
  unfold zeroVal at h
  split at h
  case h_2 => cases h
  rename_i i hi
  split at h
  case h_2 => cases h
  rename_i z0 hz
  split at h
  case isFalse => cases h
  rename_i hc
  cases h
  exact ⟨hc, by simp [zeroValue, run_typeInfo' hi, hz]⟩

theorem lookup_rel {φ : Phi} {H : AHeap} {w : World} (hs : Sim φ H w) {t kt e : TypeId} {d : TypeDesc} {z : Value} (ht : P.underlying t = some (.map kt e)) (hd : P.underlying kt = some d) (hz : zeroVal P e = some z)
    {m m' k k' : Value} (hm : VR φ m m') (hk : VR φ k k') (hok : keyOk d k = true) {es : List MapEntry} (hes : H.mapOf m = some es) {r : Option (Nat × Value)} (hr : Instr.findNow d k es 0 = some r) (ok : Bool) :
    ∃ v', (Instr.lookup t m' k' ok).run P w = .ok v' w ∧
      VR φ (lookRes z ok r) v' := by
  obtain rfl := plain_eq hk (keyOk_plain hok)
  obtain ⟨hzc, hzr⟩ := run_zeroValue' (P := P) hz w
  have hkey := keyOk_isKey hok
  have hfin : ∀ (x x' : Value) (b : Bool), VR φ x x' → VR φ (if ok then .tuple #[x, .bool b] else x) (if ok then .tuple #[x', .bool b] else x') := by
    intro x x' b hx
    cases ok
    · exact hx
    · exact .tuple (.cons hx (.cons (.bool b) .nil))
  rcases mapOf_rel hs hm hes with ⟨rfl, rfl⟩ | ⟨rb, es', clock, rfl, hb, he⟩
  · simp [Instr.findNow] at hr
    subst hr
    refine ⟨_, ?_, hfin z z false (closedV_rel φ z hzc)⟩
    simp [Instr.lookup, run_underlying ht, MapKept.run_checkKey hd hkey, MapKept.run_findKey hd (show Instr.findNow d k' [] 0 = some none from rfl), hzr, Result.andThen]
  · obtain ⟨h1, h2⟩ := he.2 d k' hok
    cases r with
    | none =>
      refine ⟨_, ?_, hfin z z false (closedV_rel φ z hzc)⟩
      simp [Instr.lookup, run_underlying ht, MapKept.run_getObj_map hb, MapKept.run_checkKey hd hkey, MapKept.run_findKey hd (h1 hr), hzr, Result.andThen]
    | some jv =>
      obtain ⟨j, v⟩ := jv
      obtain ⟨j', v', h3, h4⟩ := h2 j v hr
      refine ⟨_, ?_, hfin v v' true h4⟩
      simp [Instr.lookup, run_underlying ht, MapKept.run_getObj_map hb, MapKept.run_checkKey hd hkey, MapKept.run_findKey hd h3, Result.andThen]

theorem mapPut {φ : Phi} {H : AHeap} {w : World} (hs : Sim φ H w) {b : Nat} {m : Emb} (hb : φ b = some m) {es : List MapEntry} {clock : Nat} (hg : H.get b = .map es clock)
    {es2 : List MapEntry} {es2' : Array MapEntry} (clock2 : Nat) (he : ERs φ es2 es2'.toList) :
    Stp φ H w φ (H.set b (.map es2 clock2)) { w with heap := w.heap.setIfInBounds m.blk (.map es2' clock2) } := by
  have ho := hs.obj b m hb
  rw [hg] at ho
  obtain ⟨es', h1, h2⟩ := ho
  exact Stp.put hs hb (by rw [hg]; rfl) rfl ⟨es2', (heap_set h1).1, he⟩ rfl rfl rfl (by simp) (fun k hk => (heap_set h1).2 k hk)

theorem mapUpdate_rel {φ : Phi} {H : AHeap} {w : World} (hs : Sim φ H w) {t kt e : TypeId} {d : TypeDesc} (ht : P.underlying t = some (.map kt e)) (hd : P.underlying kt = some d)
    {b : Nat} {m : Emb} (hb : φ b = some m) {k k' x x' : Value} (hk : VR φ k k') (hx : VR φ x x') (hok : keyOk d k = true) {es : List MapEntry} {clock : Nat} (hg : H.get b = .map es clock) {r : Option (Nat × Value)} (hr : Instr.findNow d k es 0 = some r) :
    ∃ w', (Instr.mapUpdate t (.map (some m.blk)) k' x').run P w = .ok () w' ∧
      Stp φ H w φ (H.set b (match r with | some (i, _) => .map (es.modify i fun e => { e with key := k, val := x }) clock | none => .map (es ++ [{ key := k, val := x, born := clock }]) (clock + 1))) w' := by
  obtain rfl := plain_eq hk (keyOk_plain hok)
  have hkey := keyOk_isKey hok
  have ho := hs.obj b m hb
  rw [hg] at ho
  obtain ⟨es', hb', he⟩ := ho
  obtain ⟨h1, h2⟩ := findNow_rel (d := d) (k := k') 0 he
  cases r with
  | none =>
    refine ⟨{ w with heap := w.heap.setIfInBounds m.blk (.map (es'.push { key := k', val := x', born := clock }) (clock + 1)) }, ?_, mapPut hs hb hg _ (by simpa using ERs.push (e := { key := k', val := x, born := clock }) (e' := { key := k', val := x', born := clock }) rfl rfl hx he)⟩
    simp [Instr.mapUpdate, run_underlying ht, MapKept.run_getObj_map hb', MapKept.run_checkKey hd hkey, MapKept.run_findKey hd (h1 hr), MapKept.run_setObj_map _ hb', Result.andThen]
  | some jv =>
    obtain ⟨j, v⟩ := jv
    obtain ⟨v', h3, h4⟩ := h2 j v hr
    obtain ⟨n, e0, h5, h6, h7⟩ := findNow_at 0 j v' h3
    obtain rfl : n = j := by omega
    have h6' : es'[n]? = some e0 := by simpa using h6
    have hst : (Instr.keyThatStays e0.key k').run P w = .ok k' w := by simp [Instr.keyThatStays, sameNow_bits h7]
    refine ⟨{ w with heap := w.heap.setIfInBounds m.blk (.map (es'.modify n fun e => { e with key := k', val := x' }) clock) }, ?_, mapPut hs hb hg _ (by simpa using ERs.modify hx n he)⟩
    simp [Instr.mapUpdate, run_underlying ht, MapKept.run_getObj_map hb', MapKept.run_checkKey hd hkey, MapKept.run_findKey hd h3, h6', hst, MapKept.run_setObj_map _ hb', Result.andThen]

theorem delete_rel {φ : Phi} {H : AHeap} {w : World} (hs : Sim φ H w) {t kt e ty : TypeId} {d : TypeDesc} (ht : P.underlying t = some (.map kt e)) (hd : P.underlying kt = some d) (ts : Array TypeId) (hts : ts[0]? = some t)
    {b : Nat} {m : Emb} (hb : φ b = some m) {k k' : Value} (hk : VR φ k k') (hok : keyOk d k = true) {es : List MapEntry} {clock : Nat} (hg : H.get b = .map es clock) {r : Option (Nat × Value)} (hr : Instr.findNow d k es 0 = some r) :
    ∃ w', (Builtin.delete_ ts ty #[.map (some m.blk), k']).run P w = .ok (.tuple #[]) w' ∧
      Stp φ H w φ (match r with | some (i, _) => H.set b (.map (es.eraseIdx i) clock) | none => H) w' := by
  obtain rfl := plain_eq hk (keyOk_plain hok)
  have hkey := keyOk_isKey hok
  have ho := hs.obj b m hb
  rw [hg] at ho
  obtain ⟨es', hb', he⟩ := ho
  obtain ⟨h1, h2⟩ := findNow_rel (d := d) (k := k') 0 he
  cases r with
  | none =>
    refine ⟨w, ?_, .refl hs⟩
    have : w.heap.setIfInBounds m.blk (.map es' clock) = w.heap := by
      obtain ⟨hlt, he⟩ := Array.getElem?_eq_some_iff.1 hb'
      apply Array.ext_getElem?
      intro i
      rw [Array.getElem?_setIfInBounds]
      split
      · rename_i h; subst h; exact hb'.symm
      · rfl
    simp [Builtin.delete_, hts, run_underlying ht, MapKept.run_getObj_map hb', MapKept.run_checkKey hd hkey, MapKept.run_findKey hd (h1 hr), MapKept.run_setObj_map _ hb', Result.andThen, this]
  | some jv =>
    obtain ⟨j, v⟩ := jv
    obtain ⟨v', h3, h4⟩ := h2 j v hr
    obtain ⟨n, e0, h5, h6, h7⟩ := findNow_at 0 j v' h3
    obtain rfl : n = j := by omega
    have hlt : n < es'.size := by simpa using (List.getElem?_eq_some_iff.1 h6).1
    refine ⟨{ w with heap := w.heap.setIfInBounds m.blk (.map (es'.eraseIdxIfInBounds n) clock) }, ?_, mapPut hs hb hg _ (by simpa [Array.eraseIdxIfInBounds, hlt] using ERs.erase n he)⟩
    simp [Builtin.delete_, hts, run_underlying ht, MapKept.run_getObj_map hb', MapKept.run_checkKey hd hkey, MapKept.run_findKey hd h3, MapKept.run_setObj_map _ hb', Result.andThen]

theorem delete_nil {φ : Phi} {w : World} {t kt e ty : TypeId} {d : TypeDesc} (ht : P.underlying t = some (.map kt e)) (hd : P.underlying kt = some d) (ts : Array TypeId) (hts : ts[0]? = some t) {k k' : Value} (hk : VR φ k k') (hok : keyOk d k = true) :
    (Builtin.delete_ ts ty #[.map none, k']).run P w = .ok (.tuple #[]) w := by
  obtain rfl := plain_eq hk (keyOk_plain hok)
  simp [Builtin.delete_, hts, run_underlying ht, MapKept.run_checkKey hd (keyOk_isKey hok), Result.andThen]

/-! ### copy, clear -/
theorem copy_rel {φ : Phi} {H H' : AHeap} {w : World} (hs : Sim φ H w) {t e ty : TypeId} (ht : P.underlying t = some (.slice e)) {es : Nat} (he : sizeI P e = some es) (ts : Array TypeId) (hts : ts[0]? = some t)
    {d d' s s' : Value} (hd : VR φ d d') (hS : VR φ s s') {a : Option Addr} {l c k : Nat} (hda : d = .slice a l c) (hk : lenV s = some k)
    (h : H.copyN es s (min k l) a = some H') :
    ∃ w', (Builtin.copy_ ts ty #[d', s']).run P w = .ok (.int .i64 (min k l : Nat)) w' ∧ Stp φ H w φ H' w' := by
  have hlen := lenV_rel (P := P) hS hk w
  subst hda
  cases hd with
  | slNil =>
    simp only [AHeap.copyN, Option.some.injEq] at h
    subst h
    refine ⟨w, ?_, .refl hs⟩
    have := firstCells_zero (P := P) (es := es) hS hk w
    have h0 : (Nat.min k 0) = 0 := Nat.min_zero k
    simp [Builtin.copy_, hts, run_underlying ht, hlen, run_sizeOf' he, h0, this, goInt]
  | slEmpty a a' _ =>
    simp only [AHeap.copyN, Nat.min_zero, if_true, Option.some.injEq] at h
    subst h
    refine ⟨w, ?_, .refl hs⟩
    have := firstCells_zero (P := P) (es := es) hS hk w
    have h0 : (Nat.min k 0) = 0 := Nat.min_zero k
    simp [Builtin.copy_, hts, run_underlying ht, hlen, run_sizeOf' he, h0, this, goInt, storeCells]
  | sl hb hl hc =>
    rename_i b m o c'
    simp only [AHeap.copyN] at h
    by_cases h0 : min k l = 0
    · rw [if_pos h0] at h
      cases h
      refine ⟨w, ?_, .refl hs⟩
      have := firstCells_zero (P := P) (es := es) hS hk w
      have h0' : (Nat.min k l) = 0 := h0
      simp [Builtin.copy_, hts, run_underlying ht, hlen, run_sizeOf' he, h0, h0', this, goInt, storeCells]
    · rw [if_neg h0] at h
      simp only [Option.bind_eq_some_iff] at h
      obtain ⟨xs, hx, hp⟩ := h
      obtain ⟨xs', h1, h2, h3, h4⟩ := src_rel (P := P) hs hS hk (Nat.min_le_left _ _) hx
      obtain ⟨w', h5, h6⟩ := putRow_sim (P := P) hs hb h1 hp
      refine ⟨w', ?_, h6⟩
      have h4' : (Builtin.firstCells es (Nat.min k l) s').run P w = .ok xs'.toArray w := h4 w.drawn
      simp [Builtin.copy_, hts, run_underlying ht, hlen, run_sizeOf' he, h4', goInt, h5]

theorem zeroMap_eq (z : Array Value) (hz : 0 < z.size) : ∀ (n : Nat), (List.range (n * z.size)).map (fun i => z[i % z.size]!) = zeroOf z.toList n
  | 0 => by simp [zeroOf]
  | n + 1 => by
    rw [Nat.add_mul, Nat.one_mul, List.range_add, List.map_append, zeroMap_eq z hz n]
    simp only [zeroOf, List.replicate_succ', List.flatten_append, List.flatten_cons, List.flatten_nil, List.append_nil]
    congr 1
    rw [List.map_map]
    apply List.ext_getElem
    · simp
    · intro i h1 h2
      simp at h1 h2
      simp [Nat.add_mod, Nat.mod_eq_of_lt h2, h2]

theorem zeroCells_eq (z : Value) (n : Nat) (hz : 0 < (cellsL z).length) : (Builtin.zeroCells z.cells n).toList = zeroOf (cellsL z) n := by
  have := zeroMap_eq z.cells (by simpa [cellsL] using hz) n
  simpa [Builtin.zeroCells, cellsL] using this

theorem zeroArr_eq (z : Array Value) (n : Nat) (hz : 0 < z.size) : (Array.range (n * z.size)).map (fun i => z[i % z.size]!) = (zeroOf z.toList n).toArray := by
  have := zeroMap_eq z hz n
  apply Array.ext'
  simpa using this

theorem zeroOf_rel {φ : Phi} {z z' : List Value} (h : VRs φ z z') : ∀ n, VRs φ (zeroOf z n) (zeroOf z' n)
  | 0 => .nil
  | n + 1 => by
    simp only [zeroOf, List.replicate_succ, List.flatten_cons]
    exact h.append (zeroOf_rel h n)

theorem zeroOf_one {z : List Value} (h : ∀ v ∈ z, v.oneCell' = true) (n : Nat) : ∀ v ∈ zeroOf z n, v.oneCell' = true := by
  intro v hv
  simp only [zeroOf, List.mem_flatten, List.mem_replicate] at hv
  obtain ⟨l, ⟨_, rfl⟩, hv⟩ := hv
  exact h v hv

theorem clear_rel {φ : Phi} {H H' : AHeap} {w : World} (hs : Sim φ H w) {t e ty : TypeId} (ht : P.underlying t = some (.slice e)) {z : List Value} {es by_ : Nat} (he : zeroInfo P e = some (z, es, by_)) (ts : Array TypeId) (hts : ts[0]? = some t)
    {x x' : Value} (hx : VR φ x x') {a : Option Addr} {l c : Nat} (hxa : x = .slice a l c) (h : H.clearN z l a = some H') :
    ∃ w', (Builtin.clear_ ts ty #[x']).run P w = .ok (.tuple #[]) w' ∧ Stp φ H w φ H' w' := by
  obtain ⟨i, v, hi, hv, rfl, rfl, rfl, hcl, hzl, hpos, _, _, hone⟩ := zeroInfo_spec he
  subst hxa
  cases hx with
  | slNil =>
    cases h
    exact ⟨w, by simp [Builtin.clear_, hts, run_underlying ht], .refl hs⟩
  | slEmpty a a' _ =>
    simp only [AHeap.clearN, if_true, Option.some.injEq] at h
    subst h
    exact ⟨w, by simp [Builtin.clear_, hts, run_underlying ht], .refl hs⟩
  | sl hb hl hc =>
    rename_i b m o c'
    simp only [AHeap.clearN] at h
    by_cases h0 : l = 0
    · rw [if_pos h0] at h
      cases h; subst h0
      exact ⟨w, by simp [Builtin.clear_, hts, run_underlying ht], .refl hs⟩
    · rw [if_neg h0] at h
      obtain ⟨w', h5, h6⟩ := putRow_sim (P := P) hs hb (zeroOf_rel (closedVs_rel φ _ hcl) l) h
      refine ⟨w', ?_, h6⟩
      have hz := zeroCells_eq v l (by omega)
      obtain ⟨l0, rfl⟩ : ∃ l0, l = l0 + 1 := ⟨l - 1, by omega⟩
      simp [Builtin.clear_, hts, run_underlying ht, zeroValue, typeInfo, hi, hv, hz, h5]

end Go.E
