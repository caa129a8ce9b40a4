/- Cancelling: the reference's and the pipe's. -/
import Derived.Test.YtgmmkajjigmjoaaPiR34
namespace Go.E.Pi
open Go Go.E Go.Proofs.Ytgmmkajjigmjoaa Go.Proofs
set_option linter.unusedVariables false
set_option linter.unusedSimpArgs false
set_option maxRecDepth 100000
structure CaRes where
  e : EndM
  ends : List EndM
  err : Int
  s : PP
def PP.rix (s : PP) (t : Int) : Int := ixL (s.readers.map (·.1)) t
def PP.wix (s : PP) (t : Int) : Int := ixL (s.writers.map (·.thread)) t
def PP.noR (s : PP) (i : Nat) : PP := { s with readers := s.readers.take i ++ s.readers.drop (i + 1) }
def PP.noW (s : PP) (i : Nat) : PP := { s with writers := s.writers.take i ++ s.writers.drop (i + 1) }
def PP.doneAt (s : PP) (i : Nat) : Int := match s.writers[i]? with | some w => w.done | none => 0
/-- cancelling with a given way to go on -/
def PP.cancelG (pr : PP → List EndM × PP) (s : PP) (t : Int) : CaRes :=
  if 0 ≤ s.rix t then ⟨⟨t, [], 0, 13⟩, (pr (s.noR (s.rix t).toNat)).1, 0, (pr (s.noR (s.rix t).toNat)).2⟩
  else if 0 ≤ s.wix t then ⟨⟨t, [], s.doneAt (s.wix t).toNat, 13⟩, (pr (s.noW (s.wix t).toNat)).1, 0, (pr (s.noW (s.wix t).toNat)).2⟩
  else ⟨⟨0, [], 0, 0⟩, [], 22, s⟩
theorem okNoR {s : PP} (hok : Ok s) (i : Nat) : Ok (s.noR i) := ⟨hok.cap, hok.atm, hok.o0, hok.o1, by
    have := hok.rl
    show (s.readers.take i ++ s.readers.drop (i + 1)).length ≤ 64
    simp; omega, hok.wl, fun r hm => by
    have hm : r ∈ s.readers.take i ++ s.readers.drop (i + 1) := hm
    rcases List.mem_append.1 hm with h | h
    · exact hok.rs r (List.mem_of_mem_take h)
    · exact hok.rs r (List.mem_of_mem_drop h), hok.ws, hok.buf⟩
theorem okNoW {s : PP} (hok : Ok s) (i : Nat) : Ok (s.noW i) := ⟨hok.cap, hok.atm, hok.o0, hok.o1, hok.rl, by
    have := hok.wl
    show (s.writers.take i ++ s.writers.drop (i + 1)).length ≤ 64
    simp; omega, hok.rs, fun r hm => by
    have hm : r ∈ s.writers.take i ++ s.writers.drop (i + 1) := hm
    rcases List.mem_append.1 hm with h | h
    · exact hok.ws r (List.mem_of_mem_take h)
    · exact hok.ws r (List.mem_of_mem_drop h), hok.buf⟩
theorem flatMap_take {α : Type} {f : α → List Value} {es : Nat} (hf : ∀ x, (f x).length = es) : ∀ (l : List α) (i : Nat), (l.flatMap f).take (i * es) = (l.take i).flatMap f
  | [], i => by simp
  | y :: l, 0 => by simp
  | y :: l, i + 1 => by
    rw [List.flatMap_cons, List.take_succ_cons, List.flatMap_cons, Nat.add_mul, Nat.one_mul, Nat.add_comm, List.take_append, List.take_of_length_le (by rw [hf]; omega), hf]
    rw [show es + i * es - es = i * es by omega, flatMap_take hf l i]
theorem flatMap_drop {α : Type} {f : α → List Value} {es : Nat} (hf : ∀ x, (f x).length = es) : ∀ (l : List α) (i : Nat), (l.flatMap f).drop (i * es) = (l.drop i).flatMap f
  | [], i => by simp
  | y :: l, 0 => by simp
  | y :: l, i + 1 => by
    rw [List.flatMap_cons, List.drop_succ_cons, Nat.add_mul, Nat.one_mul, Nat.add_comm, ← List.drop_drop, List.drop_left' (hf y), flatMap_drop hf l i]
theorem flatten_take {es : Nat} : ∀ {css : List (List Value)} (hf : ∀ x ∈ css, x.length = es) (i : Nat), css.flatten.take (i * es) = (css.take i).flatten
  | [], _, i => by simp
  | y :: l, _, 0 => by simp
  | y :: l, hf, i + 1 => by
    have hy := hf y (by simp)
    rw [List.flatten_cons, List.take_succ_cons, List.flatten_cons, Nat.add_mul, Nat.one_mul, Nat.add_comm, List.take_append, List.take_of_length_le (by omega), hy]
    rw [show es + i * es - es = i * es by omega, flatten_take (fun x hx => hf x (by simp [hx])) i]
theorem flatten_drop {es : Nat} : ∀ {css : List (List Value)} (hf : ∀ x ∈ css, x.length = es) (i : Nat), css.flatten.drop (i * es) = (css.drop i).flatten
  | [], _, i => by simp
  | y :: l, _, 0 => by simp
  | y :: l, hf, i + 1 => by
    have hy := hf y (by simp)
    rw [List.flatten_cons, List.drop_succ_cons, Nat.add_mul, Nat.one_mul, Nat.add_comm, ← List.drop_drop, List.drop_left' hy, flatten_drop (fun x hx => hf x (by simp [hx])) i]
/-- one of many leaves -/
theorem S.manyDel {X : Type} {E : X → List Value → Asn} {B H : AHeap} {As : List Asn} {xs : List X} {css : List (List Value)} (i : Nat) (h : S B H (many E xs css :: As)) (hl : css.length = xs.length) : S B H (many E (xs.take i ++ xs.drop (i + 1)) (css.take i ++ css.drop (i + 1)) :: As) := by
  by_cases hi : i < xs.length
  · have e1 : xs = xs.take i ++ xs.drop i := (List.take_append_drop i xs).symm
    rw [e1] at h
    obtain ⟨c1, c2, rfl, h1⟩ := S.many_unapp h
    have e2 : xs.drop i = xs[i] :: xs.drop (i + 1) := List.drop_eq_getElem_cons hi
    rw [e2] at h1
    obtain ⟨c3, c4, rfl, h2⟩ := S.many_uncons (S.up1 h1)
    have h3 := S.many_app (S.up1 (S.drop h2))
    have hc1 : c1.length = i := by
      have := S.many_len (S.up2 h2)
      simp at this
      omega
    rw [List.take_left' hc1]
    have : (c1 ++ c3 :: c4).drop (i + 1) = c4 := by
      rw [← List.drop_drop, List.drop_left' hc1]; rfl
    rw [this]
    exact h3
  · rw [List.take_of_length_le (by omega), List.drop_of_length_le (by omega), List.append_nil, List.take_of_length_le (by omega), List.drop_of_length_le (by omega), List.append_nil]
    exact h

theorem L18 {B H : AHeap} {As : List Asn} {p : Nat} {s : PP} {t : Int} (hS : S B H (repP p s :: As)) (hok : Ok s) :
    wpF C 18 [.pointer (some ⟨p, 0, none⟩), .int .i64 t] H fun v H' => ∃ ve, v = .tuple ⟨[.agg ⟨[.int .i64 (s.cancelG (prog · []) t).e.thread, .slice none 0 0, .int .i64 (s.cancelG (prog · []) t).e.count, .int .i64 (s.cancelG (prog · []) t).e.err]⟩, ve, .int .i64 (s.cancelG (prog · []) t).err]⟩ ∧
      S B H' (arr 4 endA ve (s.cancelG (prog · []) t).ends :: repP p (s.cancelG (prog · []) t).s :: As) := by
  have hrl := hok.rl
  have hwl := hok.wl
  refine wpF_ofW o18 rfl rfl ?_
  unfold PP.cancelG
  refine zsr ?_; refine wpO_cons ?_; refine op1_allocS rfl hS ?_; intro p1 H1 hS; refine zw1 ?_; refine zw1 ?_; refine zns ?_; refine wp_seq ?_; refine zsr ?_; refine zw1 ?_; refine wpO_cons ?_; refine op1_bin_false rfl (by (conv => lhs; whnf) <;> rfl) (by (conv => lhs; whnf) <;> rfl) rfl ?_; refine zns ?_; refine wp_false rfl ?_; refine wp_skip ?_; refine seq_normal ?_; refine wp_seq ?_; refine zsr ?_; refine zw1 ?_; refine wpO_cons ?_; refine op1_call1 rfl (by (conv => lhs; whnf) <;> rfl) ?_
  refine wpF_mono (L21 (S.up1 hS) (by omega)) ?_
  rintro v1 H2 hS
  obtain ⟨_, hd1, _⟩ := hS.rd
  refine zw1 ?_; refine wpO_cons ?_; refine op1_call2 rfl (by (conv => lhs; whnf) <;> rfl) (by (conv => lhs; whnf) <;> rfl) ?_
  refine wpF_mono (L48 hd1 (by simp; omega)) ?_
  rintro _ _ ⟨rfl, rfl⟩
  replace hS := S.drop hS
  have hr0 : s.rix t = ixL (s.readers.map (·.1)) t := rfl
  rw [← hr0]
  refine zw1 ?_; refine zns ?_; refine zsr ?_; refine zw1 ?_; refine wpO_cons ?_; refine op1_geq rfl rfl rfl ?_; refine zns ?_
  refine wp_dec rfl (fun h1 => ?_) (fun h1 => ?_)
  · rw [if_pos h1]
    have hlt : (s.rix t).toNat < s.readers.length := by
      rw [hr0] at h1 ⊢
      have := (List.getElem?_eq_some_iff.1 (ixL_get h1)).1
      simpa using this
    obtain ⟨i, hi⟩ : ∃ i : Nat, s.rix t = i := ⟨(s.rix t).toNat, by omega⟩
    rw [hi] at hlt ⊢
    rw [Int.toNat_natCast] at hlt ⊢
    obtain ⟨rb, vr, vw, r, f, hr, hS⟩ := openP hS
    obtain ⟨ar, cr, rfl, hcr⟩ := shapeR (S.up2 hS)
    refine zsr ?_; refine zw1 ?_; refine zw1 ?_; refine wpO_cons ?_; refine op1_nilchk rfl rfl ?_; refine wpO_cons ?_; refine op1_faddr0 rfl rfl ?_; refine wpO_cons ?_; refine op1_faddr rfl rfl ?_; refine wpO_cons ?_; refine op1_load rfl rfl (by exact S.g0 hS) rfl ?_; refine zw1 ?_; refine zw1 ?_; refine wpO_cons ?_; refine op1_add rfl rfl rfl (by exact wrap_i64 (by omega) (by omega)) ?_; refine wpO_cons ?_; refine op1_call3 rfl (by (conv => lhs; whnf) <;> rfl) (by (conv => lhs; whnf) <;> rfl) (by (conv => lhs; whnf) <;> rfl) ?_
    refine wpF_mono (L49 i rfl (S.up2 hS) (rdC_one _) hlt (by omega)) ?_
    rintro v H3 ⟨a', c', rfl, hS⟩
    replace hS := S.dn2 hS
    rw [flatMap_take (f := rdC) (es := 2) (fun _ => rfl), flatMap_drop (f := rdC) (es := 2) (fun _ => rfl), ← List.flatMap_append] at hS
    refine wpO_cons ?_; refine op1_nilchk rfl rfl ?_; refine wpO_cons ?_; refine op1_faddr0 rfl rfl ?_; refine wpO_cons ?_; refine op1_faddr rfl rfl ?_; refine wpO_cons ?_; (refine op1_store1S rfl rfl (by (conv => lhs; whnf) <;> rfl) rfl rfl (S.up0 hS) rfl ?_; intro H4 hS; replace hS := S.dn0 hS); refine zns ?_; refine zsr ?_; refine zw1 ?_; refine wpO_cons ?_; refine op1_build rfl ?_; refine bk_one (by (conv => lhs; whnf) <;> rfl) rfl rfl rfl ?_; refine bk_one (by (conv => lhs; whnf) <;> rfl) rfl rfl rfl ?_; refine bk_nil ?_; refine zw1 ?_; refine wpO_cons ?_; refine op1_call1 rfl (by (conv => lhs; whnf) <;> rfl) ?_
    refine wpF_mono (L44 (closeP (s := s.noR i) ⟨hr.len, hr.lt, hr.buf, hr.le⟩ hS) (okNoR hok i)) ?_
    rintro ve H5 hS
    refine wpO_cons ?_; (refine op1_storeNS rfl rfl (by (conv => lhs; whnf) <;> rfl) rfl rfl (S.up2 hS) (Nat.le_of_ble_eq_true rfl) ?_; intro H6 hS; replace hS := S.dn2 hS); refine zw1 ?_; refine zw1 ?_; refine zns ?_; refine wp_ret ?_; refine seq_ret ?_; refine ret_of ?_; refine rk_cellN rfl (by exact S.g2 hS) rfl rfl ?_; refine rk_tmp (by (conv => lhs; whnf) <;> rfl) ?_; refine rk_tmp (by (conv => lhs; whnf) <;> rfl) ?_; refine rk_nil ?_
    exact ⟨_, rfl, S.dn1 (S.drop (S.up2 (S.dn1 hS)))⟩
  rw [if_neg h1]
  refine wp_skip ?_; refine seq_normal ?_; refine zsr ?_; refine zw1 ?_; refine wpO_cons ?_; refine op1_call1 rfl (by (conv => lhs; whnf) <;> rfl) ?_
  refine wpF_mono (L22 hS (by omega)) ?_
  rintro v3 H3 hS
  obtain ⟨_, hd3, _⟩ := hS.rd
  refine zw1 ?_; refine wpO_cons ?_; refine op1_call2 rfl (by (conv => lhs; whnf) <;> rfl) (by (conv => lhs; whnf) <;> rfl) ?_
  refine wpF_mono (L48 hd3 (by simp; omega)) ?_
  rintro _ _ ⟨rfl, rfl⟩
  replace hS := S.drop hS
  have hw0 : s.wix t = ixL (s.writers.map (·.thread)) t := rfl
  rw [← hw0]
  refine zw1 ?_; refine zns ?_; refine wp_seq ?_; refine zsr ?_; refine zw1 ?_; refine wpO_cons ?_; refine op1_lss rfl rfl rfl ?_; refine zns ?_
  refine wp_dec rfl (fun h2 => ?_) (fun h2 => ?_)
  · rw [if_neg (by omega)]
    refine zsr ?_; refine wpO_cons ?_; refine op1_build rfl ?_; refine bk_nil ?_; refine wpO_cons ?_; (refine op1_storeNS rfl rfl (by (conv => lhs; whnf) <;> rfl) rfl rfl (S.up1 hS) (Nat.le_of_ble_eq_true rfl) ?_; intro H4 hS; replace hS := S.dn1 hS); refine zw1 ?_; refine zw1 ?_; refine zns ?_; refine wp_ret ?_; refine seq_ret ?_; refine ret_of ?_; refine rk_cellN rfl (by exact S.g1 hS) rfl rfl ?_; refine rk_tmp (by (conv => lhs; whnf) <;> rfl) ?_; refine rk_tmp (by (conv => lhs; whnf) <;> rfl) ?_; refine rk_nil ?_
    exact ⟨_, rfl, S.arrNil (S.drop (S.up1 hS))⟩
  rw [if_pos (by omega)]
  have hlt : (s.wix t).toNat < s.writers.length := by
    rw [hw0] at h2 ⊢
    have := (List.getElem?_eq_some_iff.1 (ixL_get (l := s.writers.map (·.thread)) (c := t) (by omega))).1
    simpa using this
  obtain ⟨i, hi⟩ : ∃ i : Nat, s.wix t = i := ⟨(s.wix t).toNat, by omega⟩
  rw [hi] at hlt ⊢
  rw [Int.toNat_natCast] at hlt ⊢
  obtain ⟨x, hx⟩ : ∃ x, s.writers[i]? = some x := ⟨s.writers[i], by simp [hlt]⟩
  obtain ⟨rb, vr, vw, r, f, hr, hS⟩ := openP hS
  obtain ⟨aw, cw, rfl, hcw⟩ := S.arrShape (S.up3 hS) (by omega)
  obtain ⟨css, hcss, hcl, hS⟩ := S.unarr (S.up3 hS)
  replace hS := S.dn4 (S.dn4 hS)
  obtain ⟨cs0, o0, hcs0, hw1, _⟩ := S.many_at (S.up4 hS) hx
  obtain ⟨avd, cvd, rfl, hvd⟩ := wrA_at hw1
  obtain ⟨b, off, cs, rfl, hg, hle, htk, hat⟩ := (S.up3 hS).elt hlt
  have hat0 := hat 2 (by omega)
  rw [flatten_get hcss hcs0 (by omega)] at hat0
  refine wp_skip ?_; refine seq_normal ?_; refine zsr ?_; refine zw1 ?_; refine wpO_cons ?_; refine op1_nilchk rfl rfl ?_; refine wpO_cons ?_; refine op1_faddr0 rfl rfl ?_; refine wpO_cons ?_; refine op1_faddr rfl rfl ?_; refine wpO_cons ?_; refine op1_load rfl rfl (by exact S.g0 hS) rfl ?_; refine zw1 ?_; refine wpO_cons ?_; refine op1_iaddr rfl rfl rfl (by omega) (by omega) ?_; refine wpO_cons ?_; refine op1_faddr rfl rfl ?_; refine wpO_cons ?_
  refine op1_load rfl rfl hg (hat0.trans rfl) ?_
  have hda : s.doneAt i = (x.done : Nat) := by unfold PP.doneAt; rw [hx]
  rw [hda]
  refine zw1 ?_; refine zns ?_; refine zsr ?_; refine zw1 ?_; refine zw1 ?_; refine wpO_cons ?_; refine op1_nilchk rfl rfl ?_; refine wpO_cons ?_; refine op1_faddr0 rfl rfl ?_; refine wpO_cons ?_; refine op1_faddr rfl rfl ?_; refine wpO_cons ?_; refine op1_load rfl rfl (by exact S.g0 hS) rfl ?_; refine zw1 ?_; refine zw1 ?_; refine wpO_cons ?_; refine op1_add rfl rfl rfl (by exact wrap_i64 (by omega) (by omega)) ?_; refine wpO_cons ?_; refine op1_call3 rfl (by (conv => lhs; whnf) <;> rfl) (by (conv => lhs; whnf) <;> rfl) (by (conv => lhs; whnf) <;> rfl) ?_
  refine wpF_mono (L50 i rfl (S.up3 hS) (wr_one (S.up4 hS)) hlt (by omega)) ?_
  rintro v H5 ⟨a', c', rfl, hS⟩
  replace hS := S.dn3 hS
  rw [flatten_take hcss, flatten_drop hcss, ← List.flatten_append] at hS
  refine wpO_cons ?_; refine op1_nilchk rfl rfl ?_; refine wpO_cons ?_; refine op1_faddr0 rfl rfl ?_; refine wpO_cons ?_; refine op1_faddr rfl rfl ?_; refine wpO_cons ?_; (refine op1_store1S rfl rfl (by (conv => lhs; whnf) <;> rfl) rfl rfl (S.up0 hS) rfl ?_; intro H4 hS; replace hS := S.dn0 hS); refine zns ?_; refine zsr ?_; refine zw1 ?_; refine zw1 ?_; refine wpO_cons ?_; refine op1_build rfl ?_; refine bk_one (by (conv => lhs; whnf) <;> rfl) rfl rfl rfl ?_; refine bk_one (by (conv => lhs; whnf) <;> rfl) rfl rfl rfl ?_; refine bk_one (by (conv => lhs; whnf) <;> rfl) rfl rfl rfl ?_; refine bk_nil ?_; refine zw1 ?_; refine wpO_cons ?_; refine op1_call1 rfl (by (conv => lhs; whnf) <;> rfl) ?_
  have h5 := S.manyDel i (S.up4 hS) hcl
  have h6 := S.dn3 (S.arrI (S.up4 h5) (fun c hc => by
    rcases List.mem_append.1 hc with h | h
    · exact hcss c (List.mem_of_mem_take h)
    · exact hcss c (List.mem_of_mem_drop h)))
  refine wpF_mono (L44 (closeP (s := s.noW i) ⟨hr.len, hr.lt, hr.buf, hr.le⟩ h6) (okNoW hok i)) ?_
  rintro ve H7 hS
  refine wpO_cons ?_; (refine op1_storeNS rfl rfl (by (conv => lhs; whnf) <;> rfl) rfl rfl (S.up2 hS) (Nat.le_of_ble_eq_true rfl) ?_; intro H6 hS; replace hS := S.dn2 hS); refine zw1 ?_; refine zw1 ?_; refine zns ?_; refine wp_ret ?_; refine ret_of ?_; refine rk_cellN rfl (by exact S.g2 hS) rfl rfl ?_; refine rk_tmp (by (conv => lhs; whnf) <;> rfl) ?_; refine rk_tmp (by (conv => lhs; whnf) <;> rfl) ?_; refine rk_nil ?_
  exact ⟨_, rfl, S.dn1 (S.drop (S.up2 (S.dn1 hS)))⟩
end Go.E.Pi
/- Cancelling: the reference's. -/
namespace Go.E.Pi
open Go Go.E Go.Proofs.Ytgmmkajjigmjoaa Go.Proofs
set_option linter.unusedVariables false
set_option linter.unusedSimpArgs false
set_option maxRecDepth 100000
theorem one_take {css : List (List Value)} (h : css.flatten.all (·.oneCell') = true) {i : Nat} : (css.take i).flatten.all (·.oneCell') = true := by
  have h1 : css = css.take i ++ css.drop i := (List.take_append_drop i css).symm
  rw [h1, List.flatten_append, List.all_append, Bool.and_eq_true] at h
  exact h.1
theorem one_drop {css : List (List Value)} (h : css.flatten.all (·.oneCell') = true) {i : Nat} : (css.drop i).flatten.all (·.oneCell') = true := by
  have h1 : css = css.take i ++ css.drop i := (List.take_append_drop i css).symm
  rw [h1, List.flatten_append, List.all_append, Bool.and_eq_true] at h
  exact h.2
theorem L60 {B H : AHeap} {As : List Asn} {q : Nat} {s : PP} {t : Int} (hS : S B H (repQ q s :: As)) (hok : Ok s) :
    wpF C 60 [.pointer (some ⟨q, 0, none⟩), .int .i64 t] H fun v H' => ∃ ve, v = .tuple ⟨[.agg ⟨[.int .i64 (s.cancelG progQ t).e.thread, .slice none 0 0, .int .i64 (s.cancelG progQ t).e.count, .int .i64 (s.cancelG progQ t).e.err]⟩, ve, .int .i64 (s.cancelG progQ t).err]⟩ ∧
      S B H' (arr 4 endA ve (s.cancelG progQ t).ends :: repQ q (s.cancelG progQ t).s :: As) := by
  have hrl := hok.rl
  have hwl := hok.wl
  obtain ⟨ab, cb, ar, cr, aw, cw, h2, h3, h4, hS⟩ := openQ hS
  refine wpF_ofW o60 rfl rfl ?_
  unfold PP.cancelG
  refine zsr ?_; refine wpO_cons ?_; refine op1_allocS rfl hS ?_; intro p1 H1 hS; refine zw1 ?_; refine zw1 ?_; refine zns ?_; refine wp_seq ?_; refine zsr ?_; refine zw1 ?_; refine zns ?_; refine wp_block ?_
  refine wp_loop [7] (fun k vs H' => ∃ i : Nat, vs = [.int .i64 i] ∧ i + k = s.readers.length ∧ H1 = H' ∧ ∀ j, j < i → (s.readers.map (·.1))[j]? ≠ some t) ⟨s.readers.length, 0, rfl, by omega, rfl, by intro j h; omega⟩ ?_
  rintro k vs T' H2 ⟨i, rfl, hk, rfl, hno⟩
  refine wp_seq ?_; refine zsr ?_; refine zw1 ?_; refine zw1 ?_; refine wpO_cons ?_; refine op1_nilchk rfl rfl ?_; refine wpO_cons ?_; refine op1_faddr0 rfl rfl ?_; refine wpO_cons ?_; refine op1_load rfl rfl (by exact S.g1 hS) rfl ?_; refine wpO_cons ?_; refine op1_len rfl rfl ?_; refine wpO_cons ?_; refine op1_lss rfl rfl rfl ?_; refine zns ?_
  refine wp_dec rfl (fun hc => ?_) (fun hc => ?_)
  · have hi : i < s.readers.length := by omega
    obtain ⟨x, hx⟩ : ∃ x, s.readers[i]? = some x := ⟨s.readers[i], by simp [hi]⟩
    obtain ⟨b, off, cs, rfl, hg, hle, htk, hat⟩ := (S.up3 hS).elt hi
    have hat0 := hat 0 (by omega)
    rw [flatMap_get (f := rdC) (es := 2) (fun _ => rfl) hx (by omega)] at hat0
    refine wp_skip ?_; refine seq_normal ?_; refine wp_seq ?_; refine wp_block ?_; refine zsr ?_; refine zw1 ?_; refine wpO_cons ?_; refine op1_nilchk rfl rfl ?_; refine wpO_cons ?_; refine op1_faddr0 rfl rfl ?_; refine wpO_cons ?_; refine op1_load rfl rfl (by exact S.g1 hS) rfl ?_; refine zw1 ?_; refine wpO_cons ?_; refine op1_iaddr rfl rfl rfl (by omega) (by omega) ?_; refine wpO_cons ?_; refine op1_faddr rfl rfl ?_; refine wpO_cons ?_
    refine op1_load rfl rfl hg (hat0.trans rfl) ?_
    refine zw1 ?_; refine wpO_cons ?_; refine op1_eqlI rfl rfl rfl ?_; refine zns ?_
    refine wp_dec rfl (fun he => ?_) (fun he => ?_)
    · have hri : s.rix t = i := ixL_step hno (by rw [List.getElem?_map, hx]; rfl) he
      rw [hri, if_pos (by omega), Int.toNat_natCast]
      refine wp_seq ?_; refine wp_regionD ?_; refine zd1 ?_; refine wpD_cons ?_; refine op1_bsliceS rfl hS ?_; refine bk_nil ?_; intro p2 H2 hS; refine zd1 ?_; refine wpD_cons ?_; refine op1_nilchk rfl rfl ?_; refine wpD_cons ?_; refine op1_faddr0 rfl rfl ?_; refine wpD_cons ?_; refine op1_load rfl rfl (by exact S.g2 hS) rfl ?_; refine zd1 ?_; refine wpD_cons ?_
      have hT := S.drop (S.drop (S.drop (S.drop hS)))
      refine op1_sliceD rfl rfl RD.head hT (bnds_hi (by omega) (by omega)) (by omega) (by simp only [Int.toNat_natCast]; omega) ?_
      simp only [Int.toNat_natCast, Nat.zero_mul, List.drop_zero, Nat.sub_zero]
      intro a5 c5 hd5 hck5
      rw [flatMap_take (f := rdC) (es := 2) (fun _ => rfl)] at hd5
      refine zd1 ?_; refine wpD_cons ?_; refine op1_nilchk rfl rfl ?_; refine wpD_cons ?_; refine op1_faddr0 rfl rfl ?_; refine wpD_cons ?_; refine op1_load rfl rfl (by exact S.g2 hS) rfl ?_; refine zd1 ?_; refine wpD_cons ?_; refine op1_add rfl rfl rfl (by exact wrap_i64 (by omega) (by omega)) ?_; refine wpD_cons ?_
      have e3 : ((i : Int) + 1).toNat = i + 1 := by omega
      refine op1_sliceD rfl rfl RD.head hT (bnds_lo (by omega) (by omega) h2) (by omega) (Nat.le_refl _) ?_
      rw [e3]
      intro a6 c6 hd6 hck6
      rw [flatMap_drop (f := rdC) (es := 2) (fun _ => rfl), List.take_of_length_le (by rw [rdC_len]; simp)] at hd6
      refine wpD_cons ?_
      obtain ⟨_, hr5, _⟩ := hd5 _ hT
      replace hS := S.slNew (l := 0) (es := 2) hS rfl
      refine op1_appRS rfl rfl (by (conv => lhs; whnf) <;> rfl) rfl hr5 (by rw [rdC_len]; simp; omega) (rdC_one _) hS (by omega) ?_
      rw [List.nil_append, Nat.zero_add]
      intro a7 c7 H4 hS
      have hT4 := S.drop (S.drop (S.drop (S.drop hS)))
      refine wpD_cons ?_
      obtain ⟨_, hr6, _⟩ := hd6 _ (S.drop (S.drop (S.drop (S.drop hS))))
      refine op1_appRS rfl rfl (by (conv => lhs; whnf) <;> rfl) rfl hr6 (by rw [rdC_len]; simp) (rdC_one _) hS (by omega) ?_
      rw [← List.flatMap_append]
      intro a8 c8 H5 hS
      refine wpD_cons ?_; refine op1_nilchk rfl rfl ?_; refine wpD_cons ?_; refine op1_faddr0 rfl rfl ?_; refine wpD_cons ?_; (refine op1_store1S rfl rfl (by (conv => lhs; whnf) <;> rfl) rfl rfl (S.up2 hS) rfl ?_; intro H3 hS; replace hS := S.dn2 hS); refine wpD_nil ?_; refine dk_of ?_ ?_; (iterate 5 refine chk_skip ?_); refine chk_cons 15 rfl rfl rfl ?_ ?_; refine chkFs_cons 5 rfl rfl ?_ ?_; exact chk_load rfl (by exact S.g2 (by assumption)) rfl rfl; exact chkFs_nil; refine chk_skip ?_; refine chk_cons 13 rfl rfl rfl ?_ ?_; refine chkFs_cons 5 rfl rfl ?_ ?_
      · exact hck5 _ _ hT rfl
      exact chkFs_nil; (iterate 3 refine chk_skip ?_); refine chk_cons 9 rfl rfl rfl ?_ ?_; refine chkFs_cons 5 rfl rfl ?_ ?_; exact chk_load rfl (by exact S.g2 (by assumption)) rfl rfl; refine chkFs_cons 4 rfl rfl ?_ ?_; exact chk_load rfl (by exact S.g2 (by assumption)) rfl rfl; exact chkFs_nil; (iterate 2 refine chk_skip ?_); refine chk_cons 6 rfl rfl rfl ?_ ?_; refine chkFs_cons 5 rfl rfl ?_ ?_
      · exact hck6 _ _ hT rfl
      refine chkFs_cons 4 rfl rfl ?_ ?_
      · exact hck6 _ _ hT4 rfl
      exact chkFs_nil; (iterate 5 refine chk_skip ?_); exact chk_end; refine seq_normal ?_
      have hS := closeQ (s := s.noR i) (S.dn4 (S.dn3 (S.drop (S.up4 hS))))
      refine zsr ?_; refine zw1 ?_; refine wpO_cons ?_; refine op1_build rfl ?_; refine bk_one (by (conv => lhs; whnf) <;> rfl) rfl rfl rfl ?_; refine bk_one (by (conv => lhs; whnf) <;> rfl) rfl rfl rfl ?_; refine bk_nil ?_; refine zw1 ?_; refine wpO_cons ?_; refine op1_call1 rfl (by (conv => lhs; whnf) <;> rfl) ?_
      refine wpF_mono (L69 hS (okNoR hok i)) ?_
      rintro ve H6 hS
      refine wpO_cons ?_; (refine op1_storeNS rfl rfl (by (conv => lhs; whnf) <;> rfl) rfl rfl (S.up2 hS) (Nat.le_of_ble_eq_true rfl) ?_; intro H7 hS; replace hS := S.dn2 hS); refine zw1 ?_; refine zw1 ?_; refine zns ?_; refine wp_ret ?_; refine block_ret ?_; refine seq_ret ?_; refine iter_ret ?_; refine block_ret ?_; refine seq_ret ?_; refine ret_of ?_; refine rk_cellN rfl (by exact S.g2 hS) rfl rfl ?_; refine rk_tmp (by (conv => lhs; whnf) <;> rfl) ?_; refine rk_tmp (by (conv => lhs; whnf) <;> rfl) ?_; refine rk_nil ?_
      exact ⟨_, rfl, S.dn1 (S.drop (S.up2 (S.dn1 hS)))⟩
    · refine wp_skip ?_; refine block_normal ?_; refine seq_normal ?_; refine wp_region ?_; refine zw1 ?_; refine wpO_cons ?_; refine op1_add rfl rfl rfl (by exact wrap_i64 (by omega) (by omega)) ?_; refine zw1 ?_; refine wpO_nil ?_
      refine ⟨k - 1, by omega, i + 1, rfl, by omega, rfl, fun j hj => ?_⟩
      by_cases hji : j = i
      · subst hji
        rw [List.getElem?_map, hx]
        exact fun e => he (Option.some.inj e)
      · exact hno j (by omega)
  · obtain rfl : i = s.readers.length := by omega
    have hr0 : s.rix t = -1 := ixL_none fun j hj => hno j (by simpa using hj)
    rw [hr0, if_neg (by omega)]
    refine wp_exit ?_; refine seq_exit ?_; refine iter_exit ?_; refine block_exit ?_; refine seq_normal ?_; refine wp_seq ?_; refine zsr ?_; refine zw1 ?_; refine zns ?_; refine wp_block ?_
    obtain ⟨css, hcss, hcl, hS⟩ := S.unarr (S.up4 hS)
    replace hS := S.dn5 (S.dn5 hS)
    refine wp_loop [8] (fun k vs H' => ∃ i : Nat, vs = [.int .i64 i] ∧ i + k = s.writers.length ∧ H1 = H' ∧ ∀ j, j < i → (s.writers.map (·.thread))[j]? ≠ some t) ⟨s.writers.length, 0, rfl, by omega, rfl, by intro j h; omega⟩ ?_
    rintro k vs T' H2 ⟨i, rfl, hk, rfl, hno2⟩
    refine wp_seq ?_; refine zsr ?_; refine zw1 ?_; refine zw1 ?_; refine wpO_cons ?_; refine op1_nilchk rfl rfl ?_; refine wpO_cons ?_; refine op1_faddr0 rfl rfl ?_; refine wpO_cons ?_; refine op1_load rfl rfl (by exact S.g1 hS) rfl ?_; refine wpO_cons ?_; refine op1_len rfl rfl ?_; refine wpO_cons ?_; refine op1_lss rfl rfl rfl ?_; refine zns ?_
    refine wp_dec rfl (fun hc => ?_) (fun hc => ?_)
    · have hi : i < s.writers.length := by omega
      obtain ⟨x, hx⟩ : ∃ x, s.writers[i]? = some x := ⟨s.writers[i], by simp [hi]⟩
      obtain ⟨cs0, o0, hcs0, hw1, _⟩ := S.many_at (S.up5 hS) hx
      obtain ⟨avd, cvd, rfl, hvd⟩ := wrA_at hw1
      obtain ⟨b, off, cs, rfl, hg, hle, htk, hat⟩ := (S.up4 hS).elt hi
      have hat0 := hat 0 (by omega)
      have hat2 := hat 2 (by omega)
      rw [flatten_get hcss hcs0 (by omega)] at hat0 hat2
      refine wp_skip ?_; refine seq_normal ?_; refine wp_seq ?_; refine wp_block ?_; refine zsr ?_; refine zw1 ?_; refine wpO_cons ?_; refine op1_nilchk rfl rfl ?_; refine wpO_cons ?_; refine op1_faddr0 rfl rfl ?_; refine wpO_cons ?_; refine op1_load rfl rfl (by exact S.g1 hS) rfl ?_; refine zw1 ?_; refine wpO_cons ?_; refine op1_iaddr rfl rfl rfl (by omega) (by omega) ?_; refine wpO_cons ?_; refine op1_faddr rfl rfl ?_; refine wpO_cons ?_
      refine op1_load rfl rfl hg (hat0.trans rfl) ?_
      refine zw1 ?_; refine wpO_cons ?_; refine op1_eqlI rfl rfl rfl ?_; refine zns ?_
      refine wp_dec rfl (fun he => ?_) (fun he => ?_)
      · have hri : s.wix t = i := ixL_step hno2 (by rw [List.getElem?_map, hx]; rfl) he
        have hda : s.doneAt i = (x.done : Nat) := by unfold PP.doneAt; rw [hx]
        rw [hri, if_pos (by omega), Int.toNat_natCast, hda]
        refine zsr ?_; refine zw1 ?_; refine wpO_cons ?_; refine op1_nilchk rfl rfl ?_; refine wpO_cons ?_; refine op1_faddr0 rfl rfl ?_; refine wpO_cons ?_; refine op1_load rfl rfl (by exact S.g1 hS) rfl ?_; refine zw1 ?_; refine wpO_cons ?_; refine op1_iaddr rfl rfl rfl (by omega) (by omega) ?_; refine wpO_cons ?_; refine op1_faddr rfl rfl ?_; refine wpO_cons ?_
        refine op1_load rfl rfl hg (hat2.trans rfl) ?_
        refine zw1 ?_; refine zns ?_; refine wp_seq ?_; refine wp_regionD ?_; refine zd1 ?_; refine wpD_cons ?_; refine op1_bsliceS rfl hS ?_; refine bk_nil ?_; intro p2 H2 hS; refine zd1 ?_; refine wpD_cons ?_; refine op1_nilchk rfl rfl ?_; refine wpD_cons ?_; refine op1_faddr0 rfl rfl ?_; refine wpD_cons ?_; refine op1_load rfl rfl (by exact S.g2 hS) rfl ?_; refine zd1 ?_; refine wpD_cons ?_
        have hT := S.drop (S.drop (S.drop (S.drop (S.drop hS))))
        refine op1_sliceD rfl rfl RD.head hT (bnds_hi (by omega) (by omega)) (by omega) (by simp only [Int.toNat_natCast]; omega) ?_
        simp only [Int.toNat_natCast, Nat.zero_mul, List.drop_zero, Nat.sub_zero]
        intro a5 c5 hd5 hck5
        rw [flatten_take hcss] at hd5
        refine zd1 ?_; refine wpD_cons ?_; refine op1_nilchk rfl rfl ?_; refine wpD_cons ?_; refine op1_faddr0 rfl rfl ?_; refine wpD_cons ?_; refine op1_load rfl rfl (by exact S.g2 hS) rfl ?_; refine zd1 ?_; refine wpD_cons ?_; refine op1_add rfl rfl rfl (by exact wrap_i64 (by omega) (by omega)) ?_; refine wpD_cons ?_
        have e3 : ((i : Int) + 1).toNat = i + 1 := by omega
        refine op1_sliceD rfl rfl RD.head hT (bnds_lo (by omega) (by omega) h3) (by omega) (Nat.le_refl _) ?_
        rw [e3]
        intro a6 c6 hd6 hck6
        have hwone := wr_one (S.up6 hS)
        rw [flatten_drop hcss, List.take_of_length_le (by rw [flat_len 3 _ (fun c hc => hcss c (List.mem_of_mem_drop hc))]; simp; omega)] at hd6
        refine wpD_cons ?_
        obtain ⟨_, hr5, _⟩ := hd5 _ hT
        replace hS := S.slNew (l := 0) (es := 3) hS rfl
        refine op1_appRS rfl rfl (by (conv => lhs; whnf) <;> rfl) rfl hr5 (by rw [flat_len 3 _ (fun c hc => hcss c (List.mem_of_mem_take hc))]; simp; omega) (one_take hwone) hS (by omega) ?_
        rw [List.nil_append, Nat.zero_add]
        intro a7 c7 H4 hS
        have hT4 := S.drop (S.drop (S.drop (S.drop (S.drop hS))))
        refine wpD_cons ?_
        obtain ⟨_, hr6, _⟩ := hd6 _ (S.drop (S.drop (S.drop (S.drop (S.drop hS)))))
        refine op1_appRS rfl rfl (by (conv => lhs; whnf) <;> rfl) rfl hr6 (by rw [flat_len 3 _ (fun c hc => hcss c (List.mem_of_mem_drop hc))]; simp; omega) (one_drop hwone) hS (by omega) ?_
        rw [← List.flatten_append]
        intro a8 c8 H5 hS
        refine wpD_cons ?_; refine op1_nilchk rfl rfl ?_; refine wpD_cons ?_; refine op1_faddr0 rfl rfl ?_; refine wpD_cons ?_; (refine op1_store1S rfl rfl (by (conv => lhs; whnf) <;> rfl) rfl rfl (S.up2 hS) rfl ?_; intro H3 hS; replace hS := S.dn2 hS); refine wpD_nil ?_; refine dk_of ?_ ?_; (iterate 5 refine chk_skip ?_); refine chk_cons 15 rfl rfl rfl ?_ ?_; refine chkFs_cons 5 rfl rfl ?_ ?_; exact chk_load rfl (by exact S.g2 (by assumption)) rfl rfl; exact chkFs_nil; refine chk_skip ?_; refine chk_cons 13 rfl rfl rfl ?_ ?_; refine chkFs_cons 5 rfl rfl ?_ ?_
        · exact hck5 _ _ hT rfl
        exact chkFs_nil; (iterate 3 refine chk_skip ?_); refine chk_cons 9 rfl rfl rfl ?_ ?_; refine chkFs_cons 5 rfl rfl ?_ ?_; exact chk_load rfl (by exact S.g2 (by assumption)) rfl rfl; refine chkFs_cons 4 rfl rfl ?_ ?_; exact chk_load rfl (by exact S.g2 (by assumption)) rfl rfl; exact chkFs_nil; (iterate 2 refine chk_skip ?_); refine chk_cons 6 rfl rfl rfl ?_ ?_; refine chkFs_cons 5 rfl rfl ?_ ?_
        · exact hck6 _ _ hT rfl
        refine chkFs_cons 4 rfl rfl ?_ ?_
        · exact hck6 _ _ hT4 rfl
        exact chkFs_nil; (iterate 5 refine chk_skip ?_); exact chk_end; refine seq_normal ?_
        have h5 := S.manyDel i (S.up5 (S.drop (S.up5 hS))) hcl
        have h6 := S.arrI (S.up1 h5) (fun c hc => by
          rcases List.mem_append.1 hc with h | h
          · exact hcss c (List.mem_of_mem_take h)
          · exact hcss c (List.mem_of_mem_drop h))
        have hS := closeQ (s := s.noW i) (S.dn4 (S.dn4 h6))
        refine zsr ?_; refine zw1 ?_; refine zw1 ?_; refine wpO_cons ?_; refine op1_build rfl ?_; refine bk_one (by (conv => lhs; whnf) <;> rfl) rfl rfl rfl ?_; refine bk_one (by (conv => lhs; whnf) <;> rfl) rfl rfl rfl ?_; refine bk_one (by (conv => lhs; whnf) <;> rfl) rfl rfl rfl ?_; refine bk_nil ?_; refine zw1 ?_; refine wpO_cons ?_; refine op1_call1 rfl (by (conv => lhs; whnf) <;> rfl) ?_
        refine wpF_mono (L69 hS (okNoW hok i)) ?_
        rintro ve H6 hS
        refine wpO_cons ?_; (refine op1_storeNS rfl rfl (by (conv => lhs; whnf) <;> rfl) rfl rfl (S.up2 hS) (Nat.le_of_ble_eq_true rfl) ?_; intro H7 hS; replace hS := S.dn2 hS); refine zw1 ?_; refine zw1 ?_; refine zns ?_; refine wp_ret ?_; refine block_ret ?_; refine seq_ret ?_; refine iter_ret ?_; refine block_ret ?_; refine seq_ret ?_; refine ret_of ?_; refine rk_cellN rfl (by exact S.g2 hS) rfl rfl ?_; refine rk_tmp (by (conv => lhs; whnf) <;> rfl) ?_; refine rk_tmp (by (conv => lhs; whnf) <;> rfl) ?_; refine rk_nil ?_
        exact ⟨_, rfl, S.dn1 (S.drop (S.up2 (S.dn1 hS)))⟩
      · refine wp_skip ?_; refine block_normal ?_; refine seq_normal ?_; refine wp_region ?_; refine zw1 ?_; refine wpO_cons ?_; refine op1_add rfl rfl rfl (by exact wrap_i64 (by omega) (by omega)) ?_; refine zw1 ?_; refine wpO_nil ?_
        refine ⟨k - 1, by omega, i + 1, rfl, by omega, rfl, fun j hj => ?_⟩
        by_cases hji : j = i
        · subst hji
          rw [List.getElem?_map, hx]
          exact fun e => he (Option.some.inj e)
        · exact hno2 j (by omega)
    · obtain rfl : i = s.writers.length := by omega
      have hr1 : s.wix t = -1 := ixL_none fun j hj => hno2 j (by simpa using hj)
      rw [hr1, if_neg (by omega)]
      refine wp_exit ?_; refine seq_exit ?_; refine iter_exit ?_; refine block_exit ?_; refine seq_normal ?_; refine zsr ?_; refine wpO_cons ?_; refine op1_build rfl ?_; refine bk_nil ?_; refine wpO_cons ?_; (refine op1_storeNS rfl rfl (by (conv => lhs; whnf) <;> rfl) rfl rfl (S.up0 hS) (Nat.le_of_ble_eq_true rfl) ?_; intro H2 hS; replace hS := S.dn0 hS); refine zw1 ?_; refine zw1 ?_; refine zns ?_; refine wp_ret ?_; refine ret_of ?_; refine rk_cellN rfl (by exact S.g0 hS) rfl rfl ?_; refine rk_tmp (by (conv => lhs; whnf) <;> rfl) ?_; refine rk_tmp (by (conv => lhs; whnf) <;> rfl) ?_; refine rk_nil ?_
      exact ⟨_, rfl, S.arrNil (closeQ (S.dn3 (S.arrI (S.up4 (S.up4 (S.drop hS))) hcss)))⟩
end Go.E.Pi
