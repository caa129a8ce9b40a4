/-
  THE EVALUATOR, PART ZF: slices of known blocks, slices that a drawn region looks at twice, copy into a block.
-/
import Derived.Test.YtlkgacbholklkaaEhZe
set_option linter.unusedSimpArgs false
set_option linter.unusedVariables false
namespace Go.E
open Go
section
variable {C : Nat → Callee} {T : FEnv} {H : AHeap} {K : FEnv → AHeap → Prop} {d : Nat} {g : Option (Nat × Bool)}
theorem op1_sliceB {es : Nat} {x : NOpd} {lo hi : Option NOpd} {b o l c i h : Nat} {cs : List Value} {e : Nat} {ro : Bool} (hw : wantedF g T = true) (hx : x.evF T = .slice (some ⟨b, o, none⟩) l c) (hg : H.get b = .cells cs e ro) (he : e = 0 ∨ e = es)
    (hb : sliceBnds l c (lo.map (·.evF T)) (hi.map (·.evF T)) none = some (i, h, c)) (hih : i ≤ h) (hhc : h ≤ c)
    (kk : K (upd T d (.slice (some ⟨b, o + i * es, none⟩) (h - i) (c - i))) H) : op1 C ⟨some d, .slice es x lo hi none, g⟩ T H K := by
  by_cases h0 : c = 0
  · subst h0
    have e1 : h = 0 := by omega
    have e2 : i = 0 := by omega
    subst e1 e2
    refine op1_slice0 hw hx hb ?_
    simp only [Nat.zero_mul, Nat.add_zero, Nat.sub_zero] at kk
    exact kk
  · exact op1_slice hw hx h0 hb hg he kk
/-- COPY into a known block -/
theorem op1_copyB {es : Nat} {dd s : NOpd} {b off l c n : Nat} {cs ys : List Value} {e : Nat} {w : Value} {r : List Nat} (hw : wantedF g T = true) (hd : dd.evF T = .slice (some ⟨b, off, none⟩) l c) (hs : s.evF T = w) (hn : lenV w = some n) (hes : Nat.ble 1 es = true) (hR : RdS H es w ys r) (hy : ys.length = n * es) (h1 : ys.all (·.oneCell') = true)
    (hg : H.get b = .cells cs e false) (hfit : off + min n l * es ≤ cs.length)
    (kk : ∀ H', H'.get b = .cells (cs.take off ++ ys.take (min n l * es) ++ cs.drop (off + min n l * es)) e false → (∀ b', b' ≠ b → H'.get b' = H.get b') → H'.next = H.next → K (upd T d (.int .i64 (min n l : Nat))) H') : op1 C ⟨some d, .copy es dd s, g⟩ T H K := by
  have hes := Nat.le_of_ble_eq_true hes
  by_cases h0 : min n l = 0
  · refine op1_copy (H' := H) hw hd hs hn (by simp only [AHeap.copyN, if_pos h0]) (kk H ?_ (fun _ _ => rfl) rfl)
    rw [hg, h0]
    simp
  · have hle : min n l * es ≤ ys.length := by rw [hy]; exact Nat.mul_le_mul_right es (Nat.min_le_left n l)
    have hlen : (ys.take (min n l * es)).length = min n l * es := by rw [List.length_take]; omega
    refine op1_copy (H' := H.set b (.cells (cs.take off ++ ys.take (min n l * es) ++ cs.drop (off + min n l * es)) e false)) hw hd hs hn ?_ (kk _ AHeap.gs_same (fun b' hb => by rw [AHeap.get_set, if_neg hb]) rfl)
    simp only [AHeap.copyN, if_neg h0, hR.src hes hle, Option.bind_some, AHeap.putRow, hg]
    rw [if_pos ⟨trivial, by omega, by
      rw [List.all_eq_true] at h1 ⊢
      exact fun v hv => h1 v (List.mem_of_mem_take hv)⟩, hlen]
end
end Go.E
