/-
  THE EVALUATOR, PART A: the abstract heap, the relation between abstract and machine values, the simulation relation.
-/
import Derived.Below
namespace Go.E
open Go
abbrev Env := List Value

inductive Jmp where
  | exit (id : Nat)
  | ret
  deriving DecidableEq

def Jmp.code : Jmp → Code
  | .exit i => .exit i
  | .ret => .ret

inductive Fid where
  | fn (f : Nat)
  | yield (b : Nat)
  deriving DecidableEq

inductive AObj where
  | cells (cs : List Value) (es : Nat) (ro : Bool)
  | map (es : List MapEntry) (clock : Nat)
  | table (es : List MapEntry)
  | iter (m : Option Nat) (since : Nat) (seen : List Nat) (last : Nat)
  | siter (s : ByteArray) (pos : Nat)
  | loop (st : LoopState) (pend : Option Jmp) (T : List Value) (ps : List Nat) (assign body : Code)
  | dead
  deriving Inhabited

def AObj.writable : AObj → Bool
  | .cells _ _ ro => !ro
  | .map _ _ => true
  | .table _ => false
  | .iter .. => true
  | .siter .. => true
  | .loop .. => true
  | .dead => false

/-! ### the heap: a binary tree over the block's number -/
inductive Tr where
  | nil
  | node (l : Tr) (v : AObj) (r : Tr)

def Tr.get : Tr → Nat → AObj
  | .nil, _ => .dead
  | .node l v r, n => match n with
    | 0 => v
    | k + 1 => if k % 2 = 0 then l.get (k / 2) else r.get (k / 2)

def Tr.set (o : AObj) : Nat → Tr → Nat → Tr
  | 0, t, _ => t
  | f + 1, .nil, n => match n with
    | 0 => .node .nil o .nil
    | k + 1 => if k % 2 = 0 then .node (Tr.set o f .nil (k / 2)) .dead .nil else .node .nil .dead (Tr.set o f .nil (k / 2))
  | f + 1, .node l v r, n => match n with
    | 0 => .node l o r
    | k + 1 => if k % 2 = 0 then .node (Tr.set o f l (k / 2)) v r else .node l v (Tr.set o f r (k / 2))

theorem Tr.get_set (o : AObj) : ∀ (f : Nat) (t : Tr) (n c : Nat), n < f → (Tr.set o f t n).get c = if c = n then o else t.get c
  | 0, _, _, _, h => absurd h (by omega)
  | f + 1, .nil, 0, c, _ => by
    cases c with
    | zero => simp [Tr.set, Tr.get]
    | succ k => simp [Tr.set, Tr.get]
  | f + 1, .nil, n + 1, c, h => by
    have ih := fun c => Tr.get_set o f .nil (n / 2) c (by omega)
    simp only [Tr.set]
    cases c with
    | zero => split <;> simp [Tr.get]
    | succ k =>
      by_cases hn : n % 2 = 0 <;> by_cases hk : k % 2 = 0 <;> simp only [hn, hk, if_true, if_false, Tr.get, ih]
      · by_cases e : k = n
        · subst e; simp
        · have : ¬ k / 2 = n / 2 := by omega
          simp [this, e]
      · have : ¬ k = n := by intro e; subst e; exact hk hn
        simp [this]
      · have : ¬ k = n := by intro e; subst e; exact hn hk
        simp [this]
      · by_cases e : k = n
        · subst e; simp
        · have : ¬ k / 2 = n / 2 := by omega
          simp [this, e]
  | f + 1, .node l v r, 0, c, _ => by
    cases c with
    | zero => simp [Tr.set, Tr.get]
    | succ k => simp [Tr.set, Tr.get]
  | f + 1, .node l v r, n + 1, c, h => by
    have ihl := fun c => Tr.get_set o f l (n / 2) c (by omega)
    have ihr := fun c => Tr.get_set o f r (n / 2) c (by omega)
    simp only [Tr.set]
    cases c with
    | zero => split <;> simp [Tr.get]
    | succ k =>
      by_cases hn : n % 2 = 0 <;> by_cases hk : k % 2 = 0 <;> simp only [hn, hk, if_true, if_false, Tr.get, ihl, ihr]
      · by_cases e : k = n
        · subst e; simp
        · have : ¬ k / 2 = n / 2 := by omega
          simp [this, e]
      · have : ¬ k = n := by intro e; subst e; exact hk hn
        simp [this]
      · have : ¬ k = n := by intro e; subst e; exact hn hk
        simp [this]
      · by_cases e : k = n
        · subst e; simp
        · have : ¬ k / 2 = n / 2 := by omega
          simp [this, e]

structure AHeap where
  tr : Tr
  next : Nat

def AHeap.get (H : AHeap) (b : Nat) : AObj := H.tr.get b
def AHeap.set (H : AHeap) (b : Nat) (o : AObj) : AHeap := ⟨H.tr.set o (b + 1) b, H.next⟩
def AHeap.add (H : AHeap) (o : AObj) : AHeap := ⟨H.tr.set o (H.next + 1) H.next, H.next + 1⟩
def AHeap.empty : AHeap := ⟨.nil, 0⟩

@[simp] theorem AHeap.get_set (H : AHeap) (b c : Nat) (o : AObj) : (H.set b o).get c = if c = b then o else H.get c :=
  Tr.get_set o _ _ _ _ (by omega)
@[simp] theorem AHeap.get_add (H : AHeap) (c : Nat) (o : AObj) : (H.add o).get c = if c = H.next then o else H.get c :=
  Tr.get_set o _ _ _ _ (by omega)
@[simp] theorem AHeap.next_set (H : AHeap) (b : Nat) (o : AObj) : (H.set b o).next = H.next := rfl
@[simp] theorem AHeap.next_add (H : AHeap) (o : AObj) : (H.add o).next = H.next + 1 := rfl

/-! ### values -/
structure Emb where
  blk : Nat
  sh : Nat
  n : Nat
  room : Nat
  es : Nat

abbrev Phi := Nat → Option Emb

mutual
inductive VR (φ : Phi) : Value → Value → Prop
  | bool (b : Bool) : VR φ (.bool b) (.bool b)
  | int (k : IntKind) (n : Int) : VR φ (.int k n) (.int k n)
  | float (k : FloatKind) (n : Nat) : VR φ (.float k n) (.float k n)
  | str (s : ByteArray) : VR φ (.string s) (.string s)
  | ptrNil : VR φ (.pointer none) (.pointer none)
  | ptr {b : Nat} {m : Emb} (o : Nat) (h : φ b = some m) : VR φ (.pointer (some ⟨b, o, none⟩)) (.pointer (some ⟨m.blk, m.sh + o, none⟩))
  | slNil : VR φ (.slice none 0 0) (.slice none 0 0)
  | slEmpty {b : Nat} {m : Emb} (o : Nat) (a' : Addr) (h : φ b = some m) : VR φ (.slice (some ⟨b, o, none⟩) 0 0) (.slice (some a') 0 0)
  | sl {b : Nat} {m : Emb} {o l c c' : Nat} (h : φ b = some m) (hl : l ≤ c)
      (hc : c' = c ∨ (c ≤ c' ∧ 0 < m.es ∧ o + c * m.es = m.n ∧ o + c' * m.es ≤ m.room)) :
      VR φ (.slice (some ⟨b, o, none⟩) l c) (.slice (some ⟨m.blk, m.sh + o, none⟩) l c')
  | mapNil : VR φ (.map none) (.map none)
  | map {b : Nat} {m : Emb} (h : φ b = some m) : VR φ (.map (some b)) (.map (some m.blk))
  | junk (k : FloatKind) (re im : Nat) {v' : Value} (h : v'.oneCell' = true) (hb : ∀ b, v' ≠ .bool b) : VR φ (.complex k re im) v'
  | nilFunc : VR φ .nilFunc .nilFunc
  | func (f : Nat) {xs xs' ys ys' : List Value} (h : VRs φ xs xs') (h2 : VRs φ ys ys') : VR φ (.func (.func f) ⟨xs⟩ ⟨ys⟩) (.func (.func f) ⟨xs'⟩ ⟨ys'⟩)
  | yield {b : Nat} {m : Emb} (h : φ b = some m) : VR φ (.func (.yield b) ⟨[]⟩ ⟨[]⟩) (.func (.yield m.blk) ⟨[]⟩ ⟨[]⟩)
  | nilIface : VR φ .nilIface .nilIface
  | iface (t : TypeId) {v v' : Value} (h : VR φ v v') : VR φ (.iface t v) (.iface t v')
  | agg {xs xs' : List Value} (h : VRs φ xs xs') : VR φ (.agg ⟨xs⟩) (.agg ⟨xs'⟩)
  | tuple {xs xs' : List Value} (h : VRs φ xs xs') : VR φ (.tuple ⟨xs⟩) (.tuple ⟨xs'⟩)
inductive VRs (φ : Phi) : List Value → List Value → Prop
  | nil : VRs φ [] []
  | cons {v v' : Value} {vs vs' : List Value} (h : VR φ v v') (hs : VRs φ vs vs') : VRs φ (v :: vs) (v' :: vs')
end
def Phi.le (φ ψ : Phi) : Prop := ∀ b m, φ b = some m → ψ b = some m
theorem Phi.le.refl (φ : Phi) : φ.le φ := fun _ _ h => h
theorem Phi.le.trans {φ ψ χ : Phi} (h : φ.le ψ) (k : ψ.le χ) : φ.le χ := fun b m e => k b m (h b m e)

mutual
theorem VR.mono {φ ψ : Phi} (h : φ.le ψ) : ∀ {v v' : Value}, VR φ v v' → VR ψ v v'
  | _, _, .bool b => .bool b
  | _, _, .int k n => .int k n
  | _, _, .float k n => .float k n
  | _, _, .str s => .str s
  | _, _, .ptrNil => .ptrNil
  | _, _, .ptr o e => .ptr o (h _ _ e)
  | _, _, .slNil => .slNil
  | _, _, .slEmpty a a' e => .slEmpty a a' (h _ _ e)
  | _, _, .sl e hl hc => .sl (h _ _ e) hl hc
  | _, _, .mapNil => .mapNil
  | _, _, .map e => .map (h _ _ e)
  | _, _, .junk k a b h hb => .junk k a b h hb
  | _, _, .nilFunc => .nilFunc
  | _, _, .func f a b => .func f (VRs.mono h a) (VRs.mono h b)
  | _, _, .yield e => .yield (h _ _ e)
  | _, _, .nilIface => .nilIface
  | _, _, .iface t a => .iface t (VR.mono h a)
  | _, _, .agg a => .agg (VRs.mono h a)
  | _, _, .tuple a => .tuple (VRs.mono h a)
theorem VRs.mono {φ ψ : Phi} (h : φ.le ψ) : ∀ {v v' : List Value}, VRs φ v v' → VRs ψ v v'
  | _, _, .nil => .nil
  | _, _, .cons a b => .cons (VR.mono h a) (VRs.mono h b)
end
theorem VRs.length {φ : Phi} : ∀ {xs ys : List Value}, VRs φ xs ys → xs.length = ys.length
  | _, _, .nil => rfl
  | _, _, .cons _ h => by simp [VRs.length h]

theorem VRs.get {φ : Phi} : ∀ {xs ys : List Value}, VRs φ xs ys → ∀ (i : Nat) (v : Value), xs[i]? = some v → ∃ v', ys[i]? = some v' ∧ VR φ v v'
  | _, _, .nil, i, v, h => by simp at h
  | _, _, .cons a b, 0, v, h => by simp at h; subst h; exact ⟨_, by simp, a⟩
  | _, _, .cons a b, i + 1, v, h => by
    have h' := VRs.get b i v (by simpa using h)
    simpa using h'

theorem VRs.get' {φ : Phi} {xs ys : List Value} (h : VRs φ xs ys) (i : Nat) (v : Value) (hv : ys[i]? = some v) : ∃ v', xs[i]? = some v' ∧ VR φ v' v := by
  have hl := h.length
  have hi : i < ys.length := (List.getElem?_eq_some_iff.1 hv).1
  obtain ⟨u, hu⟩ : ∃ u, xs[i]? = some u := ⟨xs[i]'(by omega), by simp⟩
  obtain ⟨u', h1, h2⟩ := h.get i u hu
  rw [hv] at h1; cases h1
  exact ⟨u, hu, h2⟩

theorem VRs.of {φ : Phi} : ∀ {xs ys : List Value}, xs.length = ys.length → (∀ (i : Nat) (v : Value), xs[i]? = some v → ∃ v', ys[i]? = some v' ∧ VR φ v v') → VRs φ xs ys
  | [], [], _, _ => .nil
  | [], _ :: _, h, _ => by simp at h
  | _ :: _, [], h, _ => by simp at h
  | x :: xs, y :: ys, h, g => by
    obtain ⟨v', h1, h2⟩ := g 0 x (by simp)
    simp at h1; subst h1
    exact .cons h2 (VRs.of (by simpa using h) fun i v hv => by simpa using g (i + 1) v (by simpa using hv))

theorem VRs.append {φ : Phi} : ∀ {xs ys us vs : List Value}, VRs φ xs ys → VRs φ us vs → VRs φ (xs ++ us) (ys ++ vs)
  | _, _, _, _, .nil, h => h
  | _, _, _, _, .cons a b, h => .cons a (VRs.append b h)

theorem VRs.replicate {φ : Phi} {v v' : Value} (h : VR φ v v') : ∀ (n : Nat), VRs φ (List.replicate n v) (List.replicate n v')
  | 0 => .nil
  | n + 1 => .cons h (VRs.replicate h n)

theorem VRs.set {φ : Phi} : ∀ {xs ys : List Value} (i : Nat) {v v' : Value}, VRs φ xs ys → VR φ v v' → VRs φ (xs.set i v) (ys.set i v')
  | _, _, _, _, _, .nil, _ => .nil
  | _, _, 0, _, _, .cons _ b, h => .cons h b
  | _, _, i + 1, _, _, .cons a b, h => .cons a (VRs.set i b h)

theorem VRs.take {φ : Phi} : ∀ {xs ys : List Value} (i : Nat), VRs φ xs ys → VRs φ (xs.take i) (ys.take i)
  | _, _, i, .nil => by simp; exact .nil
  | _, _, 0, .cons _ _ => .nil
  | _, _, i + 1, .cons a b => .cons a (VRs.take i b)

theorem VRs.drop {φ : Phi} : ∀ {xs ys : List Value} (i : Nat), VRs φ xs ys → VRs φ (xs.drop i) (ys.drop i)
  | _, _, i, .nil => by simp; exact .nil
  | _, _, 0, .cons a b => .cons a b
  | _, _, i + 1, .cons _ b => VRs.drop i b

theorem VRs.getD {φ : Phi} {xs ys : List Value} (h : VRs φ xs ys) (i : Nat) {d d' : Value} (hd : VR φ d d') : VR φ (xs.getD i d) (ys.getD i d') := by
  simp only [List.getD_eq_getElem?_getD]
  cases hx : xs[i]? with
  | none =>
    have : ys[i]? = none := by
      have := h.length
      simp at hx ⊢; omega
    simp [this, hd]
  | some v =>
    obtain ⟨v', h1, h2⟩ := h.get i v hx
    simp [h1, h2]

/-! ### the simulation -/
inductive ERs (φ : Phi) : List MapEntry → List MapEntry → Prop
  | nil : ERs φ [] []
  | cons {e e' : MapEntry} {es es' : List MapEntry} (hk : e'.key = e.key) (hb : e'.born = e.born) (hv : VR φ e.val e'.val) (h : ERs φ es es') : ERs φ (e :: es) (e' :: es')

theorem ERs.mono {φ ψ : Phi} (h : φ.le ψ) : ∀ {a b : List MapEntry}, ERs φ a b → ERs ψ a b
  | _, _, .nil => .nil
  | _, _, .cons hk hb hv t => .cons hk hb (hv.mono h) (ERs.mono h t)

def keyOk (kind : TypeDesc) : Value → Bool
  | .int k _ => match kind with | .int k' => k == k' | _ => false
  | .string _ => (match kind with | .string => true | _ => false)
  | .bool _ => (match kind with | .bool => true | _ => false)
  | _ => false

def TabR (φ : Phi) (es es' : List MapEntry) : Prop := es'.length = es.length ∧ ∀ d k, keyOk d k = true →
  (Instr.findNow d k es 0 = some none → Instr.findNow d k es' 0 = some none) ∧ ∀ j v, Instr.findNow d k es 0 = some (some (j, v)) → ∃ j' v', Instr.findNow d k es' 0 = some (some (j', v')) ∧ VR φ v v'

theorem TabR.mono {φ ψ : Phi} (h : φ.le ψ) {a b : List MapEntry} (t : TabR φ a b) : TabR ψ a b :=
  ⟨t.1, fun d k hk => ⟨(t.2 d k hk).1, fun j v hv => let ⟨j', v', h1, h2⟩ := (t.2 d k hk).2 j v hv; ⟨j', v', h1, h2.mono h⟩⟩⟩

def ObjR (φ : Phi) (m : Emb) (w : World) : AObj → Prop
  | .dead => True
  | .cells cs es ro => cs.length = m.n ∧ m.n ≤ m.room ∧ es = m.es ∧ (∀ v ∈ cs, v.oneCell' = true) ∧ ∃ (C : Array Value) (el : TypeId) (fr : Nat × Nat), w.heap[m.blk]? = some (.cells C el fr) ∧ m.sh + m.room ≤ C.size ∧
      (∀ (i : Nat) v, cs[i]? = some v → ∃ v', C[m.sh + i]? = some v' ∧ VR φ v v') ∧ (ro = false → fr.1 = fr.2 ∨ C.size ≤ fr.1)
  | .map es clock => ∃ es', w.heap[m.blk]? = some (.map es' clock) ∧ ERs φ es es'.toList
  | .siter s pos => m.sh = 0 ∧ w.heap[m.blk]? = some (.stringIter s pos)
  | .loop st pend T ps assign body => m.sh = 0 ∧ ∃ r : Loop, w.heap[m.blk]? = some (.loop r) ∧ r.state = st ∧ r.pending = pend.map Jmp.code ∧ VRs φ T r.tmps.toList ∧ r.params.toList = ps ∧ r.assign = assign ∧ r.body = body
  | .iter mp since seen last => m.sh = 0 ∧ ∃ mp', w.heap[m.blk]? = some (.mapIter mp' since seen.toArray last) ∧ VR φ (.map mp) (.map mp')
  | .table es => ∃ es' clock, w.heap[m.blk]? = some (.map es' clock) ∧ TabR φ es es'.toList

structure Sim (φ : Phi) (H : AHeap) (w : World) : Prop where
  dom : ∀ b m, φ b = some m → b < H.next
  obj : ∀ b m, φ b = some m → ObjR φ m w (H.get b)
  inj : ∀ b₁ b₂ m₁ m₂, φ b₁ = some m₁ → φ b₂ = some m₂ → m₁.blk = m₂.blk → b₁ ≠ b₂ → (H.get b₁).writable = true → H.get b₂ = .dead

def Wr (φ : Phi) (H : AHeap) (k : Nat) : Prop := ∃ b m, φ b = some m ∧ m.blk = k ∧ (H.get b).writable = true

structure Stp (φ : Phi) (H : AHeap) (w : World) (φ' : Phi) (H' : AHeap) (w' : World) : Prop where
  le : φ.le φ'
  sim : Sim φ' H' w'
  os : w'.os = w.os
  tape : w'.tape = w.tape
  output : w'.output = w.output
  size : w.heap.size ≤ w'.heap.size
  keep : ∀ k, k < w.heap.size → ¬ Wr φ H k → w'.heap[k]? = w.heap[k]?
  wr : ∀ k, k < w.heap.size → Wr φ' H' k → Wr φ H k
  next : H.next ≤ H'.next
  unmapped : ∀ b, b < H.next → φ b = none → H'.get b = H.get b ∧ φ' b = none

theorem Stp.refl {φ : Phi} {H : AHeap} {w : World} (h : Sim φ H w) : Stp φ H w φ H w :=
  ⟨.refl _, h, rfl, rfl, rfl, Nat.le_refl _, fun _ _ _ => rfl, fun _ _ h => h, Nat.le_refl _, fun _ _ h => ⟨rfl, h⟩⟩

theorem Stp.trans {φ₁ φ₂ φ₃ : Phi} {H₁ H₂ H₃ : AHeap} {w₁ w₂ w₃ : World} (h : Stp φ₁ H₁ w₁ φ₂ H₂ w₂) (k : Stp φ₂ H₂ w₂ φ₃ H₃ w₃) : Stp φ₁ H₁ w₁ φ₃ H₃ w₃ where
  le := h.le.trans k.le
  sim := k.sim
  os := k.os.trans h.os
  tape := k.tape.trans h.tape
  output := k.output.trans h.output
  size := Nat.le_trans h.size k.size
  keep i hi hw := (k.keep i (Nat.lt_of_lt_of_le hi h.size) (fun hw' => hw (h.wr i hi hw'))).trans (h.keep i hi hw)
  wr i hi hw := h.wr i hi (k.wr i (Nat.lt_of_lt_of_le hi h.size) hw)
  next := Nat.le_trans h.next k.next
  unmapped b hb he := by
    obtain ⟨h1, h2⟩ := h.unmapped b hb he
    obtain ⟨h3, h4⟩ := k.unmapped b (Nat.lt_of_lt_of_le hb h.next) h2
    exact ⟨h3.trans h1, h4⟩

end Go.E
