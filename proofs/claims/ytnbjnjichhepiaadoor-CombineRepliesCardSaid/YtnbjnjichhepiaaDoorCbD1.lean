/- Combine: the first part of a message. -/
import Derived.Test.YtnbjnjichhepiaaDoorCbF4
namespace Go.E.Cb
open Go Go.E Go.Proofs.YtnbjnjichhepiaaDoor.base Go.Proofs.YtnbjnjichhepiaaDoor Go.Proofs
set_option linter.unusedVariables false
set_option linter.unusedSimpArgs false
set_option maxRecDepth 100000
section
variable {C : Callees} {T Tf : FEnv} {B H : AHeap} {As : List Asn} {K : KO} {d : Nat} {g : Option (Nat × Bool)}
theorem op1_s2ap {n : Nat} {x : NOpd} {a : Addr} {l c : Nat} (hw : wantedF g T = true) (hx : x.evF T = .slice (some a) l c) (h : 0 < n ∧ n ≤ l) (k : K (upd T d (.pointer (some a))) H) : op1 C ⟨some d, .s2ap n x, g⟩ T H K := by
  refine op1_val hw ?_ k
  simp only [NOp.sub, eop, ev_subF, hx, if_pos h]
theorem chk_sliceArr {n es : Nat} {x : NOpd} {lo hi mx : Option NOpd} {b o i h m : Nat} {cs : List Value} {es' : Nat} {ro : Bool} (hx : x.evF T = .pointer (some ⟨b, o, none⟩)) (hb : sliceBnds n n (lo.map (·.evF T)) (hi.map (·.evF T)) (mx.map (·.evF T)) = some (i, h, m)) (hg : H.get b = .cells cs es' ro) (hd : Tf d = .slice (some ⟨b, o + i * es, none⟩) (h - i) (m - i)) : chkF1 (.sliceArr n es x lo hi mx) d Tf T H := by
  refine ⟨H, ?_⟩
  simp only [NOp.sub, eop, ev_subF, hx, subOpt_ev', hb, Option.bind_some, hg, hd]
end
theorem RdS.cut {H : AHeap} {es : Nat} {a : Option Addr} {l c : Nat} {xs : List Value} {r : List Nat} (h : RdS H es (.slice a l c) xs r) (hl : 0 < l) : ∃ b off cs e ro, a = some ⟨b, off, none⟩ ∧ H.get b = .cells cs e ro ∧ off + l * es ≤ cs.length ∧ (cs.drop off).take (l * es) = xs := by
  cases h with
  | nil => omega
  | empty a => omega
  | blk hg hc he hl => exact ⟨_, _, _, _, _, rfl, hg, hc, rfl⟩
def fld (l : List Int) (a n : Nat) : Int := valB ((l.drop a).take n)
def nmL (l : List Int) : Nat := (fld l 24 2).toNat
def dtL (l : List Int) : Nat := (fld l 26 2).toNat
def allL (l : List Int) : Nat := 28 + nmL l + dtL l
def at0 (l : List Int) (i : Nat) : Int := l.getD i 0
def badF (l : List Int) : Prop := l.length < 28 ∨ 1 < at0 l 2 ∨ at0 l 3 ≠ 0 ∨ fld l 4 4 ≠ allL l ∨ l.length < allL l ∨ ¬ (at0 l 2 = 1 ↔ allL l < l.length)
instance (l : List Int) : Decidable (badF l) := by unfold badF; infer_instance
def Byt (l : List Int) : Prop := ∀ b ∈ l, 0 ≤ b ∧ b ≤ 255
theorem Byt.drop {l : List Int} (h : Byt l) (n : Nat) : Byt (l.drop n) := fun b hb => h b (List.mem_of_mem_drop hb)
theorem Byt.take {l : List Int} (h : Byt l) (n : Nat) : Byt (l.take n) := fun b hb => h b (List.mem_of_mem_take hb)
theorem fld_b {l : List Int} (h : Byt l) (a n : Nat) : 0 ≤ fld l a n ∧ fld l a n < 256 ^ n := by
  have h1 := valB_b ((l.drop a).take n) ((h.drop a).take n)
  refine ⟨h1.1, Int.lt_of_lt_of_le h1.2 ?_⟩
  rw [List.length_take]
  obtain ⟨d, hd⟩ : ∃ d, n = min n (l.drop a).length + d := ⟨n - min n (l.drop a).length, by omega⟩
  have hp : (256 : Int) ^ n = 256 ^ min n (l.drop a).length * 256 ^ d := by rw [← Int.pow_add, ← hd]
  rw [hp]
  have h2 := p256 d
  have h3 := p256 (min n (l.drop a).length)
  have := Int.mul_le_mul_of_nonneg_left (show (1 : Int) ≤ 256 ^ d by omega) (Int.le_of_lt h3)
  rwa [Int.mul_one] at this
theorem fld4 {l : List Int} (h : Byt l) (a : Nat) : 0 ≤ fld l a 4 ∧ fld l a 4 ≤ 4294967295 := by have := fld_b h a 4; simp at this; omega
theorem fld8 {l : List Int} (h : Byt l) (a : Nat) : 0 ≤ fld l a 8 ∧ fld l a 8 ≤ 18446744073709551615 := by have := fld_b h a 8; simp at this; omega
theorem wi64 (x : Int) : -9223372036854775808 ≤ IntKind.i64.wrap x ∧ IntKind.i64.wrap x ≤ 9223372036854775807 := by
  unfold IntKind.wrap
  simp only [IntKind.bits, IntKind.signed]
  simp
  split <;> omega
theorem wi64_id {x : Int} (h : -9223372036854775808 ≤ x) (h2 : x ≤ 9223372036854775807) : IntKind.i64.wrap x = x := by
  unfold IntKind.wrap
  simp only [IntKind.bits, IntKind.signed]
  simp
  split <;> omega
section
variable {B H : AHeap} {As : List Asn}
end
end Go.E.Cb
/- Combine: Decode. -/
namespace Go.E.Cb
open Go Go.E Go.Proofs.YtnbjnjichhepiaaDoor.base Go.Proofs.YtnbjnjichhepiaaDoor Go.Proofs
set_option linter.unusedVariables false
set_option linter.unusedSimpArgs false
set_option maxRecDepth 100000
section
variable {B H : AHeap} {As : List Asn}
end
end Go.E.Cb
