/-
  THE EVALUATOR, PART ZF: slices of known blocks, slices that a drawn region looks at twice, copy into a block.
-/
import Derived.Test.YtgmmkajjigmjoaaEngZe
set_option linter.unusedSimpArgs false
set_option linter.unusedVariables false
namespace Go.E
open Go
section
variable {C : Nat → Callee} {T : FEnv} {H : AHeap} {K : FEnv → AHeap → Prop} {d : Nat} {g : Option (Nat × Bool)}
theorem subOpt_none : subOpt T none = none := rfl
theorem op1_sliceB {es : Nat} {x : NOpd} {lo hi : Option NOpd} {b o l c i h : Nat} {cs : List Value} {e : Nat} {ro : Bool} (hw : wantedF g T = true) (hx : x.evF T = .slice (some ⟨b, o, none⟩) l c) (hg : H.get b = .cells cs e ro) (he : e = 0 ∨ e = es)
    (hb : sliceBnds l c (lo.map (·.evF T)) (hi.map (·.evF T)) none = some (i, h, c)) (hih : i ≤ h) (hhc : h ≤ c)
    (kk : K (upd T d (.slice (some ⟨b, o + i * es, none⟩) (h - i) (c - i))) H) : op1 C ⟨some d, .slice es x lo hi none, g⟩ T H K := by
  by_cases h0 : c = 0
  · subst h0
    have e1 : h = 0 := by omega
    have e2 : i = 0 := by omega
    subst e1 e2
    refine op1_slice0 hw hx hb ?_
    simp only [Nat.zero_mul, Nat.add_zero, Nat.sub_zero] at kk
    exact kk
  · exact op1_slice hw hx h0 hb hg he kk
theorem chk_sliceB {Tf : FEnv} {es : Nat} {x : NOpd} {lo hi : Option NOpd} {b o l c i h : Nat} {cs : List Value} {e : Nat} {ro : Bool} (hx : x.evF T = .slice (some ⟨b, o, none⟩) l c) (hg : H.get b = .cells cs e ro) (he : e = 0 ∨ e = es)
    (hb : sliceBnds l c (lo.map (·.evF T)) (hi.map (·.evF T)) none = some (i, h, c)) (hih : i ≤ h) (hhc : h ≤ c) (hd : Tf d = .slice (some ⟨b, o + i * es, none⟩) (h - i) (c - i)) : chkF1 (.slice es x lo hi none) d Tf T H := by
  refine ⟨H, ?_⟩
  rw [hd]
  by_cases h0 : c = 0
  · subst h0
    have e1 : h = 0 := by omega
    have e2 : i = 0 := by omega
    subst e1 e2
    simp only [NOp.sub, eop, ev_subF, hx, subOpt_ev', subOpt_none, Option.map_none, hb, Option.bind_some, if_true, Nat.zero_mul, Nat.add_zero, Nat.sub_zero]
  · simp only [NOp.sub, eop, ev_subF, hx, subOpt_ev', subOpt_none, Option.map_none, hb, Option.bind_some, if_neg h0, hg, if_pos he]

/-- slicing what is only looked at: a drawn region may look again, in any heap in which its blocks are the same -/
theorem op1_sliceRC {es : Nat} {x : NOpd} {lo hi : Option NOpd} {a : Option Addr} {l c i h : Nat} {xs : List Value} {o : List Nat} (hw : wantedF g T = true) (hx : x.evF T = .slice a l c) (hO : RdS H es (.slice a l c) xs o)
    (hb : sliceBnds l c (lo.map (·.evF T)) (hi.map (·.evF T)) none = some (i, h, c)) (hih : i ≤ h) (hhl : h ≤ l)
    (kk : ∀ a' c', RdS H es (.slice a' (h - i) c') ((xs.drop (i * es)).take ((h - i) * es)) o → (∀ (Tf : FEnv) H2, (∀ b ∈ o, H2.get b = H.get b) → Tf d = .slice a' (h - i) c' → chkF1 (.slice es x lo hi none) d Tf T H2) → K (upd T d (.slice a' (h - i) c')) H) : op1 C ⟨some d, .slice es x lo hi none, g⟩ T H K := by
  cases hO with
  | nil =>
    have e : h - i = 0 := by omega
    refine op1_sliceNil hw hx hb ?_
    have := kk none 0
    rw [e] at this
    simp only [List.drop_nil, List.take_nil] at this
    refine this .nil fun Tf H2 _ hd => ⟨H2, ?_⟩
    simp only [NOp.sub, eop, ev_subF, hx, subOpt_ev', subOpt_none, Option.map_none, hb, Option.bind_some, hd]
  | empty a =>
    have e : h - i = 0 := by omega
    refine op1_slice0 hw hx hb ?_
    have := kk (some a) 0
    rw [e] at this
    simp only [List.drop_nil, List.take_nil] at this
    refine this (.empty a) fun Tf H2 _ hd => ⟨H2, ?_⟩
    simp only [NOp.sub, eop, ev_subF, hx, subOpt_ev', subOpt_none, Option.map_none, hb, Option.bind_some, hd, if_true]
  | @blk b off l c cs e ro hg hc he hl =>
    refine op1_sliceB hw hx hg he hb hih (by omega) (kk (some ⟨b, off + i * es, none⟩) (c - i) ?_ fun Tf H2 hk hd => chk_sliceB hx ((hk b (by simp)).trans hg) he hb hih (by omega) hd)
    have hm1 := Nat.sub_mul h i es
    have hm2 := Nat.mul_le_mul_right es hih
    have hm3 := Nat.mul_le_mul_right es hhl
    have h4 := RdS.blk (H := H) (es := es) (b := b) (off := off + i * es) (l := h - i) (c := c - i) hg (by omega) he (by omega)
    have e : (List.drop (i * es) ((cs.drop off).take (l * es))).take ((h - i) * es) = (cs.drop (off + i * es)).take ((h - i) * es) := by
      rw [List.drop_take, List.take_take, List.drop_drop]
      congr 1
      omega
    rw [e]
    exact h4

/-- COPY into a known block -/
theorem op1_copyB {es : Nat} {dd s : NOpd} {b off l c n : Nat} {cs ys : List Value} {e : Nat} {w : Value} {r : List Nat} (hw : wantedF g T = true) (hd : dd.evF T = .slice (some ⟨b, off, none⟩) l c) (hs : s.evF T = w) (hn : lenV w = some n) (hes : Nat.ble 1 es = true) (hR : RdS H es w ys r) (hy : ys.length = n * es) (h1 : ys.all (·.oneCell') = true)
    (hg : H.get b = .cells cs e false) (hfit : off + min n l * es ≤ cs.length)
    (kk : ∀ H', H'.get b = .cells (cs.take off ++ ys.take (min n l * es) ++ cs.drop (off + min n l * es)) e false → (∀ b', b' ≠ b → H'.get b' = H.get b') → H'.next = H.next → K (upd T d (.int .i64 (min n l : Nat))) H') : op1 C ⟨some d, .copy es dd s, g⟩ T H K := by
  have hes := Nat.le_of_ble_eq_true hes
  by_cases h0 : min n l = 0
  · refine op1_copy (H' := H) hw hd hs hn (by simp only [AHeap.copyN, if_pos h0]) (kk H ?_ (fun _ _ => rfl) rfl)
    rw [hg, h0]
    simp
  · have hle : min n l * es ≤ ys.length := by rw [hy]; exact Nat.mul_le_mul_right es (Nat.min_le_left n l)
    have hlen : (ys.take (min n l * es)).length = min n l * es := by rw [List.length_take]; omega
    refine op1_copy (H' := H.set b (.cells (cs.take off ++ ys.take (min n l * es) ++ cs.drop (off + min n l * es)) e false)) hw hd hs hn ?_ (kk _ AHeap.gs_same (fun b' hb => by rw [AHeap.get_set, if_neg hb]) rfl)
    simp only [AHeap.copyN, if_neg h0, hR.src hes hle, Option.bind_some, AHeap.putRow, hg]
    rw [if_pos ⟨trivial, by omega, by
      rw [List.all_eq_true] at h1 ⊢
      exact fun v hv => h1 v (List.mem_of_mem_take hv)⟩, hlen]
end
end Go.E
