/- What a law's arguments hold; the sound callee; a list of acts looked through. -/
import Derived.Test.YtgmmkajjigmjoaaPiF8
import Derived.Test.YtgmmkajjigmjoaaEngZb
import Derived.KernelRfl
namespace Go.E.Pi
open Go Go.E Go.ChangeShapes Go.WideShapes Go.ChangeAt Go.RowKit Go.Proofs.Ytgmmkajjigmjoaa Go.Proofs
set_option linter.unusedVariables false
set_option linter.unusedSimpArgs false
set_option maxRecDepth 100000

theorem mixed : Try.prog.follows .mixedOrders = true := by kernel_rfl
theorem awakeRun : ((callN (cProg Try.prog 0) 60 10 [] (startH objs)).map (·.1)) = some (.bool true) := by kernel_rfl
theorem C_ok (n : Nat) : CalleeOk Try.prog 0 (C n) := callX_sound mixed (knownAt_ok (n := 60) mixed (by decide) (by decide) fun f v h => by
  simp only [K, List.lookup] at h
  split at h
  · rename_i e
    cases h
    have : f = 10 := by simpa using e
    subst this
    exact ⟨rfl, awakeRun⟩
  · cases h) n
theorem globAll (H : AHeap) : Glob objs H := ⟨fun b hb => by simp [objs] at hb, Nat.zero_le _⟩

structure ActM where
  kind : Int
  thread : Int
  n : Int
  ad : Option Addr
  cd : Nat
  wait : Bool
  l : List Int
  r : List Nat
def ActM.cells (a : ActM) : List Value := [.int .u8 a.kind, .int .i64 a.thread, .int .i64 a.n, .slice a.ad a.l.length a.cd, .bool a.wait]
structure ActOk (H : AHeap) (a : ActM) : Prop where
  k0 : 0 ≤ a.kind ∧ a.kind ≤ 255
  d : RdS H 1 (.slice a.ad a.l.length a.cd) (u8s a.l) a.r
  lo : ∀ b ∈ a.r, b < H.next
/-- a list of acts in the base -/
structure Acts (B : AHeap) (a : Option Addr) (c : Nat) (xs : List ActM) : Prop where
  rd : ∃ cells r, RdS B 5 (.slice a xs.length c) cells r ∧ ∀ b ∈ r, b < B.next
  ok : ∀ x ∈ xs, ActOk B x
  at_ : ∀ (i : Nat) x, xs[i]? = some x → ∃ b o cs, a = some ⟨b, o, none⟩ ∧ B.get b = .cells cs 0 true ∧ b < B.next ∧ o + i * 5 + 5 ≤ cs.length ∧ (cs.drop (o + i * 5)).take 5 = x.cells

theorem u22 : Try.prog.underlying 22 = some (.slice 29) := by kernel_rfl
theorem u29 : (match Try.prog.underlying 29 with | some (.struct fs) => fs.toList.map fun f => (f.type, f.offset) | _ => []) = [(5,0),(3,1),(3,2),(27,3),(4,4)] := by kernel_rfl
theorem co29 : Try.prog.cellsOf 29 = 5 := by kernel_rfl
theorem u27 : Try.prog.underlying 27 = some (.slice 5) := by kernel_rfl
theorem u3 : Try.prog.underlying 3 = some (.int .i64) := by kernel_rfl
theorem u4 : Try.prog.underlying 4 = some .bool := by kernel_rfl
theorem u5 : Try.prog.underlying 5 = some (.int .u8) := by kernel_rfl
theorem co3 : Try.prog.cellsOf 3 = 1 := by kernel_rfl
theorem co4 : Try.prog.cellsOf 4 = 1 := by kernel_rfl
theorem co5 : Try.prog.cellsOf 5 = 1 := by kernel_rfl
theorem co27 : Try.prog.cellsOf 27 = 1 := by kernel_rfl
theorem ag22 : aggT Try.prog 22 = false := by kernel_rfl
theorem ag3 : aggT Try.prog 3 = false := by kernel_rfl
theorem ag5 : aggT Try.prog 5 = false := by kernel_rfl

theorem act_of {gs : List AObj} {vs : List Value} (h : OkA Try.prog gs 3 29 vs) : ∃ x : ActM, ActOk (startH gs) x ∧ vs = x.cells := by
  unfold OkA at h
  have hu := u29
  split at h
  case h_5 fs hfs =>
    rw [hfs] at hu
    simp only at hu
    obtain ⟨hl, hf⟩ := h
    rw [co29] at hl
    have hm : ∀ t o, (t, o) ∈ [(5,0),(3,1),(3,2),(27,3),(4,4)] → OkA Try.prog gs 2 t ((vs.drop o).take (Try.prog.cellsOf t)) := by
      intro t o hto
      rw [← hu] at hto
      obtain ⟨f, h1, h2⟩ := List.mem_map.1 hto
      cases h2
      exact hf f h1
    have h5 := hm 5 0 (by simp)
    have h3 := hm 3 1 (by simp)
    have h3' := hm 3 2 (by simp)
    have h27 := hm 27 3 (by simp)
    have h4 := hm 4 4 (by simp)
    rw [co5] at h5
    rw [co3] at h3 h3'
    rw [co27] at h27
    rw [co4] at h4
    match vs, hl with
    | [a, b, c, d, e], _ =>
    simp only [List.drop_zero, List.take_succ_cons, List.take_zero, List.drop_succ_cons] at h5 h3 h3' h27 h4
    unfold OkA at h5 h3 h3' h4
    rw [u5] at h5
    rw [u3] at h3 h3'
    rw [u4] at h4
    obtain ⟨k, hk, hw⟩ := h5
    obtain ⟨n, hn, _⟩ := h3
    obtain ⟨m, hm', _⟩ := h3'
    obtain ⟨w, hw', hw2⟩ := h4
    cases hk; cases hn; cases hm'
    obtain ⟨v, l, r, hv, h1, h2, h3⟩ := h27.bytes (n := 0) u27 u5 co5
    cases hv
    obtain ⟨ad, cd, rfl⟩ := RdS.u1 h1
    refine ⟨⟨k, n, m, ad, cd, w, l, r⟩, ⟨?_, h1, by rw [next_startH]; exact h2⟩, rfl⟩
    simp [Lit.wf, IntKind.min, IntKind.max, IntKind.signed, IntKind.bits] at hw
    show 0 ≤ k ∧ k ≤ 255
    omega
  all_goals (rename_i h0; first | (rw [h0] at hu; cases hu) | skip)
  all_goals exact h.elim

theorem arg_acts {gs : List AObj} {a : Value} (h : ∃ cells, a = argV Try.prog 22 cells ∧ OkA Try.prog gs 4 22 cells) :
    ∃ (ad : Option Addr) (xs : List ActM) (c : Nat), a = .slice ad xs.length c ∧ xs.length ≤ c ∧ Acts (startH gs) ad c xs := by
  obtain ⟨cells, rfl, h⟩ := h
  unfold OkA at h
  rw [u22] at h
  rcases h with rfl | ⟨b, c, rfl, _⟩ | ⟨b, l, c, cells, rfl, hlc, hg, hl, hc⟩
  · exact ⟨none, [], 0, by unfold argV; rw [ag22]; rfl, by simp, ⟨⟨[], [], .nil, by simp⟩, by simp, by simp⟩⟩
  · exact ⟨some ⟨b, 0, none⟩, [], 0, by unfold argV; rw [ag22]; rfl, by simp, ⟨⟨[], [], .empty _, by simp⟩, by simp, by simp⟩⟩
  · rw [co29] at hl hc
    obtain ⟨xs, h1, h2⟩ := list_of (Q := fun i (x : ActM) => ActOk (startH gs) x ∧ (cells.drop (i * 5)).take 5 = x.cells) l fun i hi => act_of (hc i hi)
    have hb := (List.getElem?_eq_some_iff.1 hg).1
    refine ⟨some ⟨b, 0, none⟩, xs, c, by unfold argV; rw [ag22, h1]; rfl, by omega, ⟨⟨_, [b], RdS.blk (es := 5) (off := 0) (l := xs.length) (c := c) (cs := cells) (e := 0) (ro := true) (by rw [get_startH, List.getD_eq_getElem?_getD, hg]; rfl) (by omega) (.inl rfl) (by omega), by simp; rw [next_startH]; exact hb⟩, fun x hx => ?_, fun i x hx => ?_⟩⟩
    · obtain ⟨i, hi⟩ := List.getElem?_of_mem hx
      exact (h2 i x hi).1
    · have hi := (List.getElem?_eq_some_iff.1 hx).1
      exact ⟨b, 0, cells, rfl, by rw [get_startH, List.getD_eq_getElem?_getD, hg]; rfl, by rw [next_startH]; exact hb, by omega, by rw [Nat.zero_add]; exact (h2 i x hx).2⟩
theorem arg_int {gs : List AObj} {n : Nat} {a : Value} (h : ∃ cells, a = argV Try.prog 3 cells ∧ OkA Try.prog gs (n + 1) 3 cells) : ∃ x, a = .int .i64 x ∧ (Lit.int .i64 x).wf = true := by
  obtain ⟨cells, rfl, h⟩ := h
  unfold OkA at h
  rw [u3] at h
  obtain ⟨b, rfl, hw⟩ := h
  exact ⟨b, by unfold argV; rw [ag3]; rfl, hw⟩
theorem arg_u8 {gs : List AObj} {n : Nat} {a : Value} (h : ∃ cells, a = argV Try.prog 5 cells ∧ OkA Try.prog gs (n + 1) 5 cells) : ∃ x, a = .int .u8 x ∧ 0 ≤ x ∧ x ≤ 255 := by
  obtain ⟨cells, rfl, h⟩ := h
  unfold OkA at h
  rw [u5] at h
  obtain ⟨b, rfl, hw⟩ := h
  refine ⟨b, by unfold argV; rw [ag5]; rfl, ?_⟩
  simp [Lit.wf, IntKind.min, IntKind.max, IntKind.signed, IntKind.bits] at hw
  omega

theorem Acts.at_take {B : AHeap} {a : Option Addr} {c : Nat} {xs : List ActM} (h : Acts B a c xs) {n : Nat} {i : Nat} {x : ActM} (hx : (xs.take n)[i]? = some x) : xs[i]? = some x := by
  rw [List.getElem?_take] at hx
  split at hx
  · exact hx
  · cases hx
/-- the first acts -/
theorem op1_actsCut {B H : AHeap} {As : List Asn} {T : FEnv} {K : FEnv → AHeap → Prop} {d : Nat} {g : Option (Nat × Bool)} {x : NOpd} {hi : Option NOpd} {a : Option Addr} {c h : Nat} {xs : List ActM} (hw : wantedF g T = true) (hx : x.evF T = .slice a xs.length c) (hA : Acts B a c xs) (hS : S B H As)
    (hb : sliceBnds xs.length c none (hi.map (·.evF T)) none = some (0, h, c)) (hh : h ≤ xs.length)
    (kk : ∀ c', Acts B a c' (xs.take h) → (xs.take h).length = h → K (upd T d (.slice a (xs.take h).length c')) H) : op1 C ⟨some d, .slice 5 x none hi none, g⟩ T H K := by
  obtain ⟨cells, r, hr, hl⟩ := hA.rd
  have hlen : (xs.take h).length = h := by rw [List.length_take]; omega
  have e : svA 5 a c 0 = a := by
    clear hlen kk hb hh hx hA
    generalize xs.length = n at hr
    cases hr with
    | nil => rfl
    | empty a => simp [svA]
    | blk hg hc he hl => simp only [svA]; split <;> simp
  have h1 := hr.sv (i := 0) (h := h) (Nat.zero_le _) hh
  rw [e, Nat.sub_zero] at h1
  refine op1_val (H' := H) hw (v := .slice a h (svC a c 0)) ?_ ?_
  · have := sv_eop (lo := none) (hi := hi) hx (hS.rdB hr hl) (by simpa using hb) (Nat.zero_le _) hh
    rw [e, Nat.sub_zero] at this
    exact this
  · have k := kk (svC a c 0) ⟨⟨_, r, by rw [hlen]; exact h1, hl⟩, fun x hx => hA.ok x (List.mem_of_mem_take hx), fun i x hx => hA.at_ i x (hA.at_take hx)⟩ hlen
    rw [hlen] at k
    exact k

/-! ### few -/
theorem L36 {B H : AHeap} {As : List Asn} (hS : S B H As) (x : ActM) : wpF C 36 [.agg ⟨x.cells⟩] H fun v H' => v = .bool (decide (5000 < x.l.length)) ∧ S B H' As := by
  refine wpF_ofW o36 rfl rfl ?_
  unfold ActM.cells
  refine wp_seq ?_; refine wp_region ?_; refine wpO_cons ?_; refine op1_boxNS rfl rfl rfl hS ?_; intro p1 H1 hS; refine wpO_cons ?_; refine op1_mov rfl (by (conv => lhs; whnf) <;> rfl) ?_; refine wpO_nil ?_; refine seq_normal ?_; refine wp_seq ?_; refine wp_region ?_; refine wpO_cons ?_; refine op1_faddr0 rfl rfl ?_; refine wpO_cons ?_; refine op1_load rfl rfl (by exact S.g0 hS) rfl ?_; refine wpO_cons ?_; refine op1_len rfl rfl ?_; refine wpO_cons ?_; refine op1_gtr rfl rfl rfl ?_; refine wpO_cons ?_; refine op1_mov rfl (by (conv => lhs; whnf) <;> rfl) ?_; refine wpO_nil ?_; refine seq_normal ?_; refine wp_ret ?_; refine ret_of ?_; refine rk_tmp (by (conv => lhs; whnf) <;> rfl) ?_; refine rk_nil ?_
  exact ⟨by simp only [resultV]; congr 1; rw [decide_eq_decide]; omega, S.drop hS⟩

theorem L64 {B H : AHeap} {As : List Asn} (hS : S B H As) {a : Option Addr} {c : Nat} {xs : List ActM} (hA : Acts B a c xs) (hl : xs.length ≤ 100) :
    wpF C 64 [.slice a xs.length c, .func (.func 36) #[] #[]] H fun v H' => (∃ k, v = .int .i64 k ∧ (0 ≤ k ↔ ∃ x ∈ xs, 5000 < x.l.length)) ∧ S B H' As := by
  refine wpF_ofW o64 rfl rfl ?_
  refine wp_seq ?_; refine wp_region ?_; refine wpO_cons ?_; refine op1_mov rfl (by (conv => lhs; whnf) <;> rfl) ?_; refine wpO_nil ?_; refine seq_normal ?_; refine wp_seq ?_; refine wp_seq ?_; refine wp_region ?_; refine wpO_cons ?_; refine op1_mov rfl (by (conv => lhs; whnf) <;> rfl) ?_; refine wpO_cons ?_; refine op1_len rfl rfl ?_; refine wpO_cons ?_; refine op1_mov rfl (by (conv => lhs; whnf) <;> rfl) ?_; refine wpO_nil ?_; refine seq_normal ?_; refine wp_block ?_
  refine wp_loop [8] (fun k vs H' => ∃ i : Nat, vs = [.int .i64 i] ∧ i + k = xs.length ∧ S B H' As ∧ ∀ x ∈ xs.take i, ¬ 5000 < x.l.length) ⟨xs.length, 0, rfl, by omega, hS, by simp⟩ ?_
  clear hS
  rintro k vs T' H1 ⟨i, rfl, hk, hS, hno⟩
  refine wp_seq ?_; refine wp_region ?_; refine wpO_cons ?_; refine op1_lss rfl rfl rfl ?_; refine wpO_nil ?_; refine seq_normal ?_; refine wp_seq ?_
  refine wp_dec rfl (fun hc => ?_) (fun hc => ?_)
  · obtain ⟨x, hx⟩ : ∃ x, xs[i]? = some x := ⟨xs[i]'(by omega), by simp⟩
    obtain ⟨b, o, cs, rfl, hg, hb, hle, hat⟩ := hA.at_ i x hx
    have hg1 := (hS.base b hb).trans hg
    refine wp_skip ?_; refine seq_normal ?_; refine wp_seq ?_; refine wp_block ?_; refine wp_seq ?_; refine wp_region ?_; refine wpO_cons ?_; refine op1_mov rfl (by (conv => lhs; whnf) <;> rfl) ?_; refine wpO_cons ?_; refine op1_mov rfl (by (conv => lhs; whnf) <;> rfl) ?_; refine wpO_nil ?_; refine seq_normal ?_; refine wp_seq ?_; refine wp_region ?_; refine wpO_cons ?_; refine op1_mov rfl (by (conv => lhs; whnf) <;> rfl) ?_; refine wpO_cons ?_; refine op1_mov rfl (by (conv => lhs; whnf) <;> rfl) ?_; refine wpO_cons ?_; refine op1_mov rfl (by (conv => lhs; whnf) <;> rfl) ?_; refine wpO_cons ?_; refine op1_iaddr rfl rfl rfl (by omega) (by omega) ?_; refine wpO_cons ?_
    refine op1_loadN rfl rfl hg1 hle hat ?_
    refine wpO_cons ?_; refine op1_dyn1 rfl rfl (by (conv => lhs; whnf) <;> rfl) ?_
    refine wpF_mono (L36 hS x) ?_
    rintro _ H2 ⟨rfl, hS⟩
    refine wpO_nil ?_; refine seq_normal ?_
    refine wp_dec rfl (fun h5 => ?_) (fun h5 => ?_)
    · refine wp_seq ?_; refine wp_region ?_; refine wpO_cons ?_; refine op1_mov rfl (by (conv => lhs; whnf) <;> rfl) ?_; refine wpO_cons ?_; refine op1_mov rfl (by (conv => lhs; whnf) <;> rfl) ?_; refine wpO_nil ?_; refine seq_normal ?_; refine wp_ret ?_; refine block_ret ?_; refine seq_ret ?_; refine iter_ret ?_; refine block_ret ?_; refine seq_ret ?_; refine ret_of ?_; refine rk_tmp (by (conv => lhs; whnf) <;> rfl) ?_; refine rk_nil ?_
      exact ⟨⟨_, rfl, ⟨fun _ => ⟨x, List.mem_of_getElem? hx, h5⟩, fun _ => by omega⟩⟩, hS⟩
    · refine wp_skip ?_; refine block_normal ?_; refine seq_normal ?_; refine wp_region ?_; refine wpO_cons ?_; refine op1_add rfl rfl rfl (by exact wrap_i64 (by omega) (by omega)) ?_; refine wpO_cons ?_; refine op1_mov rfl (by (conv => lhs; whnf) <;> rfl) ?_; refine wpO_nil ?_
      refine ⟨k - 1, by omega, i + 1, rfl, by omega, hS, fun y hy => ?_⟩
      rw [List.take_add_one, hx] at hy
      simp only [Option.toList_some, List.mem_append, List.mem_singleton] at hy
      rcases hy with hy | rfl
      · exact hno y hy
      · exact h5
  · obtain rfl : i = xs.length := by omega
    rw [List.take_length] at hno
    refine wp_exit ?_; refine seq_exit ?_; refine iter_exit ?_; refine block_exit ?_; refine seq_normal ?_; refine wp_seq ?_; refine wp_region ?_; refine wpO_cons ?_; refine op1_mov rfl (by (conv => lhs; whnf) <;> rfl) ?_; refine wpO_nil ?_; refine seq_normal ?_; refine wp_ret ?_; refine ret_of ?_; refine rk_tmp (by (conv => lhs; whnf) <;> rfl) ?_; refine rk_nil ?_
    exact ⟨⟨_, rfl, ⟨fun h => by omega, fun ⟨x, hx, h⟩ => absurd h (hno x hx)⟩⟩, hS⟩

theorem L35 {B H : AHeap} {As : List Asn} (hS : S B H As) {a : Option Addr} {c : Nat} {xs : List ActM} (hA : Acts B a c xs) (hl : xs.length ≤ 100) :
    wpF C 35 [.slice a xs.length c, .func (.func 36) #[] #[]] H fun v H' => v = .bool (decide (∃ x ∈ xs, 5000 < x.l.length)) ∧ S B H' As := by
  refine wpF_ofW o35 rfl rfl ?_
  refine wp_seq ?_; refine wp_region ?_; refine wpO_cons ?_; refine op1_mov rfl (by (conv => lhs; whnf) <;> rfl) ?_; refine wpO_nil ?_; refine seq_normal ?_; refine wp_seq ?_; refine wp_region ?_; refine wpO_cons ?_; refine op1_mov rfl (by (conv => lhs; whnf) <;> rfl) ?_; refine wpO_cons ?_; refine op1_mov rfl (by (conv => lhs; whnf) <;> rfl) ?_; refine wpO_cons ?_; refine op1_call2 rfl (by (conv => lhs; whnf) <;> rfl) (by (conv => lhs; whnf) <;> rfl) ?_
  refine wpF_mono (L64 hS hA hl) ?_
  rintro _ H1 ⟨⟨k, rfl, hk⟩, hS⟩
  refine wpO_cons ?_; refine op1_geq rfl rfl rfl ?_; refine wpO_cons ?_; refine op1_mov rfl (by (conv => lhs; whnf) <;> rfl) ?_; refine wpO_nil ?_; refine seq_normal ?_; refine wp_ret ?_; refine ret_of ?_; refine rk_tmp (by (conv => lhs; whnf) <;> rfl) ?_; refine rk_nil ?_
  exact ⟨by simp only [resultV]; congr 1; rw [decide_eq_decide]; exact hk, hS⟩

def Few (xs : List ActM) : Prop := xs.length ≤ 50 ∧ ∀ x ∈ xs, x.l.length ≤ 5000
theorem L9 {B H : AHeap} {As : List Asn} (hS : S B H As) {a : Option Addr} {c : Nat} {xs : List ActM} (hA : Acts B a c xs) :
    wpF C 9 [.slice a xs.length c] H fun v H' => (∃ b, v = .bool b ∧ (b = true ↔ Few xs)) ∧ S B H' As := by
  refine wpF_ofW o9 rfl rfl ?_
  refine wp_seq ?_; refine wp_region ?_; refine wpO_cons ?_; refine op1_mov rfl (by (conv => lhs; whnf) <;> rfl) ?_; refine wpO_nil ?_; refine seq_normal ?_; refine wp_seq ?_; refine wp_region ?_; refine wpO_cons ?_; refine op1_mov rfl (by (conv => lhs; whnf) <;> rfl) ?_; refine wpO_cons ?_; refine op1_len rfl rfl ?_; refine wpO_cons ?_; refine op1_leq rfl rfl rfl ?_; refine wpO_cons ?_; refine op1_mov rfl (by (conv => lhs; whnf) <;> rfl) ?_; refine wpO_cons ?_
  refine op1_dec rfl (fun hc => ?_) (fun hc => ?_)
  · refine op1_mov rfl (by (conv => lhs; whnf) <;> rfl) ?_; refine wpO_cons ?_; refine op1_call2 rfl (by (conv => lhs; whnf) <;> rfl) (by (conv => lhs; whnf) <;> rfl) ?_
    refine wpF_mono (L35 hS hA (by omega)) ?_
    rintro _ H1 ⟨rfl, hS⟩
    refine wpO_cons ?_; refine op1_not rfl rfl ?_; refine wpO_cons ?_; refine op1_pick_t rfl rfl (by (conv => lhs; whnf) <;> rfl) ?_; refine wpO_cons ?_; refine op1_mov rfl (by (conv => lhs; whnf) <;> rfl) ?_; refine wpO_nil ?_; refine seq_normal ?_; refine wp_ret ?_; refine ret_of ?_; refine rk_tmp (by (conv => lhs; whnf) <;> rfl) ?_; refine rk_nil ?_
    refine ⟨⟨_, rfl, ?_⟩, hS⟩
    simp only [Few, Bool.not_eq_true', decide_eq_false_iff_not]
    constructor
    · exact fun h => ⟨by omega, fun x hx => Nat.le_of_not_lt fun h2 => h ⟨x, hx, h2⟩⟩
    · exact fun ⟨_, h⟩ ⟨x, hx, h2⟩ => by have := h x hx; omega
  · refine op1_skip rfl ?_; refine wpO_cons ?_; refine op1_skip rfl ?_; refine wpO_cons ?_; refine op1_skip rfl ?_; refine wpO_cons ?_; refine op1_pick_f rfl rfl (by (conv => lhs; whnf) <;> rfl) ?_; refine wpO_cons ?_; refine op1_mov rfl (by (conv => lhs; whnf) <;> rfl) ?_; refine wpO_nil ?_; refine seq_normal ?_; refine wp_ret ?_; refine ret_of ?_; refine rk_tmp (by (conv => lhs; whnf) <;> rfl) ?_; refine rk_nil ?_
    exact ⟨⟨_, rfl, by simp only [Few]; constructor; (intro h; cases h); (intro h; omega)⟩, hS⟩

/-- bytes.Equal -/
theorem L14 {H : AHeap} {v w : Value} {l l2 : List Int} {r1 r2 : List Nat} (h1 : RdS H 1 v (u8s l) r1) (h2 : RdS H 1 w (u8s l2) r2) : wpF C 14 [v, w] H fun u H' => (∃ b, u = .bool b ∧ (l = l2 → b = true)) ∧ H = H' := by
  refine wpF_ofW o14 rfl rfl ?_
  refine wp_seq ?_; refine wp_region ?_; refine wpO_cons ?_; refine op1_mov rfl (by (conv => lhs; whnf) <;> rfl) ?_; refine wpO_nil ?_; refine seq_normal ?_; refine wp_seq ?_; refine wp_region ?_; refine wpO_cons ?_; refine op1_mov rfl (by (conv => lhs; whnf) <;> rfl) ?_; refine wpO_cons ?_
  refine op1_b2s rfl (by (conv => lhs; whnf) <;> rfl) (h1.b2sU) ?_
  refine wpO_cons ?_; refine op1_mov rfl (by (conv => lhs; whnf) <;> rfl) ?_; refine wpO_cons ?_
  refine op1_b2s rfl (by (conv => lhs; whnf) <;> rfl) (h2.b2sU) ?_
  refine wpO_cons ?_; refine op1_eqlS rfl rfl rfl ?_; refine wpO_cons ?_; refine op1_mov rfl (by (conv => lhs; whnf) <;> rfl) ?_; refine wpO_nil ?_; refine seq_normal ?_; refine wp_ret ?_; refine ret_of ?_; refine rk_tmp (by (conv => lhs; whnf) <;> rfl) ?_; refine rk_nil ?_
  exact ⟨⟨_, rfl, fun e => by subst e; simp⟩, rfl⟩

/-! ### New -/
def PP.new (c : Nat) (a : Int) : PP := ⟨c, a, [], 0, 0, [], []⟩
theorem okNew {c : Nat} {a : Int} (hc : 1 ≤ c ∧ c ≤ 4096) (ha : 1 ≤ a ∧ a ≤ c) : Ok (PP.new c a) := ⟨hc, ha, by simp [PP.new], by simp [PP.new], by simp [PP.new], by simp [PP.new], by simp [PP.new], by simp [PP.new], by simp [PP.new]⟩
theorem L25 {B H : AHeap} {As : List Asn} (hS : S B H As) {c : Nat} {a : Int} (hc : 1 ≤ c ∧ c ≤ 4096) (ha : 1 ≤ a ∧ a ≤ c) :
    wpF C 25 [.int .i64 c, .int .i64 a] H fun v H' => ∃ p, v = .tuple ⟨[.pointer (some ⟨p, 0, none⟩), .int .i64 0]⟩ ∧ S B H' (repP p (PP.new c a) :: As) := by
  refine wpF_ofW o25 rfl rfl ?_
  refine wp_seq ?_; refine wp_region ?_; refine wpO_cons ?_; refine op1_mov rfl (by (conv => lhs; whnf) <;> rfl) ?_; refine wpO_cons ?_; refine op1_mov rfl (by (conv => lhs; whnf) <;> rfl) ?_; refine wpO_nil ?_; refine seq_normal ?_; refine wp_seq ?_; refine wp_seq ?_; refine wp_region ?_; refine wpO_cons ?_; refine op1_mov rfl (by (conv => lhs; whnf) <;> rfl) ?_; refine wpO_cons ?_; refine op1_lss rfl rfl rfl ?_; refine wpO_cons ?_; refine op1_mov rfl (by (conv => lhs; whnf) <;> rfl) ?_; refine wpO_cons ?_
  refine op1_dec rfl (fun h1 => ?_) (fun h1 => ?_)
  · omega
  refine op1_mov rfl (by (conv => lhs; whnf) <;> rfl) ?_; refine wpO_cons ?_; refine op1_gtr rfl rfl rfl ?_; refine wpO_cons ?_; refine op1_pick_f rfl rfl (by (conv => lhs; whnf) <;> rfl) ?_; refine wpO_cons ?_; refine op1_mov rfl (by (conv => lhs; whnf) <;> rfl) ?_; refine wpO_cons ?_
  refine op1_dec rfl (fun h2 => ?_) (fun h2 => ?_)
  · omega
  refine op1_mov rfl (by (conv => lhs; whnf) <;> rfl) ?_; refine wpO_cons ?_; refine op1_lss rfl rfl rfl ?_; refine wpO_cons ?_; refine op1_pick_f rfl rfl (by (conv => lhs; whnf) <;> rfl) ?_; refine wpO_cons ?_; refine op1_mov rfl (by (conv => lhs; whnf) <;> rfl) ?_; refine wpO_cons ?_
  refine op1_dec rfl (fun h3 => ?_) (fun h3 => ?_)
  · omega
  refine op1_mov rfl (by (conv => lhs; whnf) <;> rfl) ?_; refine wpO_cons ?_; refine op1_mov rfl (by (conv => lhs; whnf) <;> rfl) ?_; refine wpO_cons ?_; refine op1_gtr rfl rfl rfl ?_; refine wpO_cons ?_; refine op1_pick_f rfl rfl (by (conv => lhs; whnf) <;> rfl) ?_; refine wpO_nil ?_; refine seq_normal ?_
  refine wp_dec rfl (fun h4 => ?_) (fun h4 => ?_)
  · omega
  refine wp_skip ?_; refine seq_normal ?_; refine wp_seq ?_; refine wp_region ?_; refine wpO_cons ?_; refine op1_mov rfl (by (conv => lhs; whnf) <;> rfl) ?_; refine wpO_cons ?_
  refine op1_mksliceS rfl rfl rfl (by omega) (Int.le_refl _) (by omega) hS ?_
  rw [Int.toNat_natCast, u8s_zero]
  intro p1 H1 hS; refine wpO_cons ?_; refine op1_build rfl ?_; refine bk_one (by (conv => lhs; whnf) <;> rfl) rfl rfl rfl ?_; refine bk_nil ?_; refine wpO_cons ?_; refine op1_mov rfl (by (conv => lhs; whnf) <;> rfl) ?_; refine wpO_cons ?_; refine op1_build rfl ?_; refine bk_agg rfl rfl rfl rfl ?_; refine bk_one (by (conv => lhs; whnf) <;> rfl) rfl rfl rfl ?_; refine bk_nil ?_; refine wpO_cons ?_; refine op1_boxNS rfl rfl rfl hS ?_; intro p2 H2 hS; refine wpO_cons ?_; refine op1_mov rfl (by (conv => lhs; whnf) <;> rfl) ?_; refine wpO_cons ?_; refine op1_mov rfl (by (conv => lhs; whnf) <;> rfl) ?_; refine wpO_nil ?_; refine seq_normal ?_; refine wp_ret ?_; refine ret_of ?_; refine rk_tmp (by (conv => lhs; whnf) <;> rfl) ?_; refine rk_tmp (by (conv => lhs; whnf) <;> rfl) ?_; refine rk_nil ?_
  exact ⟨_, rfl, closeP (s := PP.new c a) (r := List.replicate c 0) (f := 0) ⟨by simp [PP.new], by show 0 < c; omega, by simp [PP.new, rot], by simp [PP.new]⟩ (S.dn3 (S.dn3 (S.slNil (S.arrNil hS))))⟩
theorem L25e {B H : AHeap} {As : List Asn} (hS : S B H As) {c a : Int} (h : ¬ (1 ≤ c ∧ c ≤ 4096 ∧ 1 ≤ a ∧ a ≤ c)) :
    wpF C 25 [.int .i64 c, .int .i64 a] H fun v H' => v = .tuple ⟨[.pointer none, .int .i64 34]⟩ ∧ S B H' As := by
  refine wpF_ofW o25 rfl rfl ?_
  refine wp_seq ?_; refine wp_region ?_; refine wpO_cons ?_; refine op1_mov rfl (by (conv => lhs; whnf) <;> rfl) ?_; refine wpO_cons ?_; refine op1_mov rfl (by (conv => lhs; whnf) <;> rfl) ?_; refine wpO_nil ?_; refine seq_normal ?_; refine wp_seq ?_; refine wp_seq ?_; refine wp_region ?_; refine wpO_cons ?_; refine op1_mov rfl (by (conv => lhs; whnf) <;> rfl) ?_; refine wpO_cons ?_; refine op1_lss rfl rfl rfl ?_; refine wpO_cons ?_; refine op1_mov rfl (by (conv => lhs; whnf) <;> rfl) ?_; refine wpO_cons ?_; refine op1_split rfl (fun hc0 => ?_) (fun hc0 => ?_); (focus (refine op1_skip rfl ?_; refine wpO_cons ?_; refine op1_skip rfl ?_; refine wpO_cons ?_; refine op1_pick_t rfl rfl (by (conv => lhs; whnf) <;> rfl) ?_; refine wpO_cons ?_; refine op1_mov rfl (by (conv => lhs; whnf) <;> rfl) ?_; refine wpO_cons ?_; refine op1_skip rfl ?_; refine wpO_cons ?_; refine op1_skip rfl ?_; refine wpO_cons ?_; refine op1_pick_t rfl rfl (by (conv => lhs; whnf) <;> rfl) ?_; refine wpO_cons ?_; refine op1_mov rfl (by (conv => lhs; whnf) <;> rfl) ?_; refine wpO_cons ?_; refine op1_skip rfl ?_; refine wpO_cons ?_; refine op1_skip rfl ?_; refine wpO_cons ?_; refine op1_skip rfl ?_; refine wpO_cons ?_; refine op1_pick_t rfl rfl (by (conv => lhs; whnf) <;> rfl) ?_; refine wpO_nil ?_; refine seq_normal ?_; refine wp_true rfl ?_; refine wp_seq ?_; refine wp_region ?_; refine wpO_cons ?_; refine op1_mov rfl (by (conv => lhs; whnf) <;> rfl) ?_; refine wpO_cons ?_; refine op1_mov rfl (by (conv => lhs; whnf) <;> rfl) ?_; refine wpO_nil ?_; refine seq_normal ?_; refine wp_ret ?_; refine seq_ret ?_; refine ret_of ?_; refine rk_tmp (by (conv => lhs; whnf) <;> rfl) ?_; refine rk_tmp (by (conv => lhs; whnf) <;> rfl) ?_; refine rk_nil ?_; (first | exact ⟨rfl, hS⟩ | (exfalso; omega) | (exfalso; simp_all; done) | (exfalso; simp_all; omega)))); (focus (refine op1_mov rfl (by (conv => lhs; whnf) <;> rfl) ?_; refine wpO_cons ?_; refine op1_gtr rfl rfl rfl ?_; refine wpO_cons ?_; refine op1_pick_f rfl rfl (by (conv => lhs; whnf) <;> rfl) ?_; refine wpO_cons ?_; refine op1_mov rfl (by (conv => lhs; whnf) <;> rfl) ?_; refine wpO_cons ?_; refine op1_split rfl (fun hc1 => ?_) (fun hc1 => ?_); (focus (refine op1_skip rfl ?_; refine wpO_cons ?_; refine op1_skip rfl ?_; refine wpO_cons ?_; refine op1_pick_t rfl rfl (by (conv => lhs; whnf) <;> rfl) ?_; refine wpO_cons ?_; refine op1_mov rfl (by (conv => lhs; whnf) <;> rfl) ?_; refine wpO_cons ?_; refine op1_skip rfl ?_; refine wpO_cons ?_; refine op1_skip rfl ?_; refine wpO_cons ?_; refine op1_skip rfl ?_; refine wpO_cons ?_; refine op1_pick_t rfl rfl (by (conv => lhs; whnf) <;> rfl) ?_; refine wpO_nil ?_; refine seq_normal ?_; refine wp_true rfl ?_; refine wp_seq ?_; refine wp_region ?_; refine wpO_cons ?_; refine op1_mov rfl (by (conv => lhs; whnf) <;> rfl) ?_; refine wpO_cons ?_; refine op1_mov rfl (by (conv => lhs; whnf) <;> rfl) ?_; refine wpO_nil ?_; refine seq_normal ?_; refine wp_ret ?_; refine seq_ret ?_; refine ret_of ?_; refine rk_tmp (by (conv => lhs; whnf) <;> rfl) ?_; refine rk_tmp (by (conv => lhs; whnf) <;> rfl) ?_; refine rk_nil ?_; (first | exact ⟨rfl, hS⟩ | (exfalso; omega) | (exfalso; simp_all; done) | (exfalso; simp_all; omega)))); (focus (refine op1_mov rfl (by (conv => lhs; whnf) <;> rfl) ?_; refine wpO_cons ?_; refine op1_lss rfl rfl rfl ?_; refine wpO_cons ?_; refine op1_pick_f rfl rfl (by (conv => lhs; whnf) <;> rfl) ?_; refine wpO_cons ?_; refine op1_mov rfl (by (conv => lhs; whnf) <;> rfl) ?_; refine wpO_cons ?_; refine op1_split rfl (fun hc2 => ?_) (fun hc2 => ?_); (focus (refine op1_skip rfl ?_; refine wpO_cons ?_; refine op1_skip rfl ?_; refine wpO_cons ?_; refine op1_skip rfl ?_; refine wpO_cons ?_; refine op1_pick_t rfl rfl (by (conv => lhs; whnf) <;> rfl) ?_; refine wpO_nil ?_; refine seq_normal ?_; refine wp_true rfl ?_; refine wp_seq ?_; refine wp_region ?_; refine wpO_cons ?_; refine op1_mov rfl (by (conv => lhs; whnf) <;> rfl) ?_; refine wpO_cons ?_; refine op1_mov rfl (by (conv => lhs; whnf) <;> rfl) ?_; refine wpO_nil ?_; refine seq_normal ?_; refine wp_ret ?_; refine seq_ret ?_; refine ret_of ?_; refine rk_tmp (by (conv => lhs; whnf) <;> rfl) ?_; refine rk_tmp (by (conv => lhs; whnf) <;> rfl) ?_; refine rk_nil ?_; (first | exact ⟨rfl, hS⟩ | (exfalso; omega) | (exfalso; simp_all; done) | (exfalso; simp_all; omega)))); (focus (refine op1_mov rfl (by (conv => lhs; whnf) <;> rfl) ?_; refine wpO_cons ?_; refine op1_mov rfl (by (conv => lhs; whnf) <;> rfl) ?_; refine wpO_cons ?_; refine op1_gtr rfl rfl rfl ?_; refine wpO_cons ?_; refine op1_pick_f rfl rfl (by (conv => lhs; whnf) <;> rfl) ?_; refine wpO_nil ?_; refine seq_normal ?_; refine wp_cond rfl (fun hc3 => ?_) (fun hc3 => ?_); (focus (refine wp_seq ?_; refine wp_region ?_; refine wpO_cons ?_; refine op1_mov rfl (by (conv => lhs; whnf) <;> rfl) ?_; refine wpO_cons ?_; refine op1_mov rfl (by (conv => lhs; whnf) <;> rfl) ?_; refine wpO_nil ?_; refine seq_normal ?_; refine wp_ret ?_; refine seq_ret ?_; refine ret_of ?_; refine rk_tmp (by (conv => lhs; whnf) <;> rfl) ?_; refine rk_tmp (by (conv => lhs; whnf) <;> rfl) ?_; refine rk_nil ?_; (first | exact ⟨rfl, hS⟩ | (exfalso; omega) | (exfalso; simp_all; done) | (exfalso; simp_all; omega)))); (focus (refine wp_skip ?_; refine seq_normal ?_; refine wp_seq ?_; refine wp_region ?_; refine wpO_cons ?_; refine op1_mov rfl (by (conv => lhs; whnf) <;> rfl) ?_; refine wpO_cons ?_; (first | exact ⟨rfl, hS⟩ | (exfalso; omega) | (exfalso; simp_all; done) | (exfalso; simp_all; omega))))))))))
end Go.E.Pi
