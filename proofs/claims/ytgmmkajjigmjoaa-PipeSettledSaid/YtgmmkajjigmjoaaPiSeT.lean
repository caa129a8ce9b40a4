/- PipeSettled: no thread is blocked twice; an act keeps that. -/
import Derived.Test.YtgmmkajjigmjoaaPiS89
namespace Go.E.Pi
open Go Go.E Go.Proofs.Ytgmmkajjigmjoaa Go.Proofs
set_option linter.unusedVariables false
set_option linter.unusedSimpArgs false
set_option maxRecDepth 100000
def trs (s : PP) : List Int := s.readers.map (·.1) ++ s.writers.map (·.thread)
structure NT (c : Nat) (s : PP) : Prop where
  nd : (trs s).Nodup
  cap : s.cap = c
/-- it blocks no thread that was not blocked -/
structure Sb (s' s : PP) : Prop where
  sub : (trs s').Sublist (trs s)
  cap : s'.cap = s.cap
theorem Sb.refl (s : PP) : Sb s s := ⟨.refl _, rfl⟩
theorem Sb.trans {a b c : PP} (h : Sb a b) (k : Sb b c) : Sb a c := ⟨h.sub.trans k.sub, h.cap.trans k.cap⟩
theorem NT.sb {c : Nat} {s s' : PP} (h : NT c s) (k : Sb s' s) : NT c s' := ⟨k.sub.nodup h.nd, k.cap.trans h.cap⟩
theorem stepR_sb {s s' : PP} {e : Option EndM} (h : stepR s = some (e, s')) : Sb s' s := by
  unfold stepR at h
  split at h
  · cases h
  · rename_i x rs hr
    split at h
    · cases h
      refine ⟨?_, rfl⟩
      simp only [trs, hr, List.map_cons, List.cons_append]
      exact List.sublist_cons_self _ _
    · cases h
theorem stepI_sb {s s' : PP} {e : Option EndM} (h : stepI s = some (e, s')) : Sb s' s := by
  unfold stepI at h
  split at h
  · exact stepR_sb h
  · rename_i w ws hw
    have hsub : (s.readers.map (·.1) ++ ws.map (·.thread)).Sublist (trs s) := by
      simp only [trs, hw, List.map_cons]
      exact (List.Sublist.refl _).append (List.sublist_cons_self _ _)
    split at h
    · cases h; exact ⟨hsub, rfl⟩
    · split at h
      · split at h
        · cases h; exact ⟨hsub, rfl⟩
        · cases h; exact ⟨by simp only [trs, hw, List.map_cons]; exact .refl _, rfl⟩
      · exact stepR_sb h
theorem progN_sb : ∀ (n : Nat) (s : PP) (acc : List EndM), Sb (progN n s acc).2 s
  | 0, s, acc => .refl s
  | n + 1, s, acc => by
    unfold progN
    split
    · exact .refl s
    · rename_i e s' h
      exact (progN_sb n s' _).trans (stepI_sb h)
theorem prog_sb (s : PP) (acc : List EndM) : Sb (prog s acc).2 s := progN_sb _ s acc
section
variable {c : Nat} {s : PP} (h : NT c s)
include h
theorem NT.openR : NT c s.openR.2 := by unfold PP.openR; split <;> exact ⟨h.nd, h.cap⟩
theorem NT.openW : NT c s.openW.2 := by unfold PP.openW; split <;> exact ⟨h.nd, h.cap⟩
theorem NT.closeR : NT c s.closeR.2.2 := by
  unfold PP.closeR
  split
  · exact h
  · split
    · exact h
    · exact NT.sb (s := { s with o0 := s.o0 - 1 }) ⟨h.nd, h.cap⟩ (prog_sb _ _)
theorem NT.closeW : NT c s.closeW.2.2 := by
  unfold PP.closeW
  split
  · exact h
  · split
    · exact h
    · exact NT.sb (s := { s with o1 := s.o1 - 1 }) ⟨h.nd, h.cap⟩ (prog_sb _ _)
omit h in
theorem not_blocked {t : Int} (hb : ¬ s.blocked t = true) : t ∉ trs s := by
  intro hm
  apply hb
  unfold PP.blocked trs at *
  rcases List.mem_append.1 hm with h1 | h1
  · rw [decide_eq_true h1]; rfl
  · rw [decide_eq_true h1]; simp
theorem NT.queue {w : Wr} (hb : w.thread ∉ trs s) : NT c (s.queue w) := ⟨by
  unfold PP.queue trs
  rw [List.map_append, ← List.append_assoc, List.nodup_append]
  refine ⟨h.nd, by simp, ?_⟩
  intro a ha b hb2 e
  simp only [List.map_cons, List.map_nil, List.mem_singleton] at hb2
  subst hb2 e
  exact hb ha, h.cap⟩
theorem NT.read (t n : Int) (w : Bool) : NT c (s.read t n w).s := by
  unfold PP.read
  split
  · exact h
  split
  · exact h
  split
  · exact h
  rename_i hb
  have hb := not_blocked hb
  split
  · exact h
  split
  · exact NT.sb (s := s.rdTake n) ⟨h.nd, h.cap⟩ (prog_sb _ _)
  split
  · exact h
  split
  · exact h
  split
  · exact h
  · refine ⟨?_, h.cap⟩
    show (trs { s with readers := s.readers ++ [(t, n)] }).Nodup
    have e : (trs { s with readers := s.readers ++ [(t, n)] }).Perm (t :: trs s) := by
      unfold trs
      rw [List.map_append, List.append_assoc]
      exact List.perm_middle
    rw [e.nodup_iff]
    exact List.nodup_cons.2 ⟨hb, h.nd⟩
theorem NT.write (t : Int) (d : List Int) (w : Bool) : NT c (s.write t d w).s := by
  unfold PP.write
  split
  · exact h
  split
  · exact h
  split
  · exact h
  split
  · exact h
  rename_i hb
  have hb := not_blocked hb
  split
  · exact h
  split
  · exact h
  split
  · exact h
  split
  · exact h
  split
  · exact h.queue hb
  have hp : NT c (s.put d) := ⟨h.nd, h.cap⟩
  split
  · exact (hp.queue (w := ⟨t, d, _⟩) hb).sb (prog_sb _ _)
  · exact hp.sb (prog_sb _ _)
omit h in
theorem cut_sub {α : Type} (l : List α) (i : Nat) : (l.take i ++ l.drop (i + 1)).Sublist l := by
  have h1 : (l.take i ++ l.drop (i + 1)).Sublist (l.take i ++ l.drop i) := (List.Sublist.refl _).append (by rw [← List.drop_drop]; exact List.drop_sublist _ _)
  rwa [List.take_append_drop] at h1
theorem NT.cancel (t : Int) : NT c (s.cancelG (prog · []) t).s := by
  unfold PP.cancelG
  split
  · refine h.sb ((prog_sb _ _).trans ⟨?_, rfl⟩)
    exact ((cut_sub s.readers _).map _).append (.refl _)
  split
  · refine h.sb ((prog_sb _ _).trans ⟨?_, rfl⟩)
    exact (List.Sublist.refl _).append ((cut_sub s.writers _).map _)
  · exact h
end
/-- do, under what rests, no thread blocked twice -/
theorem L27n {c : Nat} {B H : AHeap} {As : List Asn} {p q : Nat} {s : PP} {x : ActM} (hS : S B H (repP p s :: repQ q s :: As)) (hs : Rest s) (hn : NT c s) (hxo : ActOk B x) (hx5 : x.l.length ≤ 5000) :
    wpF C 27 [.pointer (some ⟨p, 0, none⟩), .pointer (some ⟨q, 0, none⟩), .agg ⟨x.cells⟩] H fun v H' => v = .bool true ∧ ∃ s', Rest s' ∧ NT c s' ∧ S B H' (repP p s' :: repQ q s' :: As) := by
  have hd := fun (As : List Asn) => RD.base (As := As) hxo.d hxo.lo
  refine wpF_ofW o27 rfl rfl ?_
  unfold ActM.cells
  refine zsr ?_; refine wpO_cons ?_; refine op1_boxNS rfl rfl rfl hS ?_; intro p1 H1 hS; refine zw1 ?_; refine zns ?_; refine wp_seq ?_; refine zsr ?_; refine wpO_cons ?_; refine op1_faddr0 rfl rfl ?_; refine wpO_cons ?_; refine op1_load rfl rfl (by exact S.g0 hS) rfl ?_; refine wpO_cons ?_; refine op1_rem rfl rfl rfl (by omega) ?_; refine zns ?_; refine wp_block ?_; refine zsr ?_; refine wpO_cons ?_; refine op1_eqlI rfl rfl rfl ?_; refine zw1 ?_; refine zns ?_
  refine wp_dec rfl (fun c0 => ?_) (fun c0 => ?_)
  · refine zsr ?_; refine zw1 ?_; refine wpO_cons ?_; refine op1_call1 rfl (by (conv => lhs; whnf) <;> rfl) ?_
    refine wpF_mono (L19 (S.up1 hS) hs.ok) ?_
    rintro _ H2 ⟨rfl, hS⟩
    refine zw1 ?_; refine wpO_cons ?_; refine op1_call1 rfl (by (conv => lhs; whnf) <;> rfl) ?_
    refine wpF_mono (L53 (S.up2 hS) hs.ok) ?_
    rintro _ H3 ⟨rfl, hS⟩
    refine wpO_cons ?_; refine op1_eqlI_s rfl rfl rfl ?_; refine zw1 ?_; refine zns ?_; refine wp_ret ?_; refine block_ret ?_; refine seq_ret ?_; refine ret_of ?_; refine rk_tmp (by (conv => lhs; whnf) <;> rfl) ?_; refine rk_nil ?_
    refine ⟨by simp [resultV], _, hs.openR, hn.openR, S.up1 (S.drop (S.up2 hS))⟩
  refine zsr ?_; refine wpO_cons ?_; refine op1_eqlI rfl rfl rfl ?_; refine zw1 ?_; refine zns ?_
  refine wp_dec rfl (fun c1 => ?_) (fun c1 => ?_)
  · refine zsr ?_; refine zw1 ?_; refine wpO_cons ?_; refine op1_call1 rfl (by (conv => lhs; whnf) <;> rfl) ?_
    refine wpF_mono (L20 (S.up1 hS) hs.ok) ?_
    rintro _ H2 ⟨rfl, hS⟩
    refine zw1 ?_; refine wpO_cons ?_; refine op1_call1 rfl (by (conv => lhs; whnf) <;> rfl) ?_
    refine wpF_mono (L54 (S.up2 hS) hs.ok) ?_
    rintro _ H3 ⟨rfl, hS⟩
    refine wpO_cons ?_; refine op1_eqlI_s rfl rfl rfl ?_; refine zw1 ?_; refine zns ?_; refine wp_ret ?_; refine block_ret ?_; refine seq_ret ?_; refine ret_of ?_; refine rk_tmp (by (conv => lhs; whnf) <;> rfl) ?_; refine rk_nil ?_
    refine ⟨by simp [resultV], _, hs.openW, hn.openW, S.up1 (S.drop (S.up2 hS))⟩
  refine zsr ?_; refine wpO_cons ?_; refine op1_eqlI rfl rfl rfl ?_; refine zw1 ?_; refine zns ?_
  refine wp_dec rfl (fun c2 => ?_) (fun c2 => ?_)
  · refine zsr ?_; refine zw1 ?_; refine wpO_cons ?_; refine op1_call1 rfl (by (conv => lhs; whnf) <;> rfl) ?_
    refine wpF_mono (L16 (S.up1 hS) hs.ok) ?_
    rintro _ H2 ⟨ve, rfl, hS⟩
    refine zw1 ?_; refine wpO_cons ?_; refine op1_extract rfl rfl rfl ?_; refine wpO_cons ?_; refine op1_extract rfl rfl rfl ?_; refine zw1 ?_; refine zw1 ?_; refine zns ?_; refine zsr ?_; refine zw1 ?_; refine wpO_cons ?_; refine op1_call1 rfl (by (conv => lhs; whnf) <;> rfl) ?_
    refine wpF_mono (L55 (S.up3 hS) hs.ok) ?_
    rw [hs.closeR.1]
    rintro _ H3 ⟨ve2, rfl, hS⟩
    refine zw1 ?_; refine wpO_cons ?_; refine op1_extract rfl rfl rfl ?_; refine wpO_cons ?_; refine op1_extract rfl rfl rfl ?_; refine zw1 ?_; refine zw1 ?_; refine zns ?_; refine zsr ?_; refine zw1 ?_; refine zw1 ?_; refine wpO_cons ?_; refine op1_eqlI_s rfl rfl rfl ?_; refine zw1 ?_; refine zw1 ?_; refine zw1 ?_; refine wpO_cons ?_; refine op1_call2 rfl (by (conv => lhs; whnf) <;> rfl) (by (conv => lhs; whnf) <;> rfl) ?_
    refine wpF_mono (L56 (S.up2 hS) (closeR_le hs.ok)) ?_
    rintro _ H4 ⟨rfl, hS⟩
    refine wpO_cons ?_; refine op1_pick_t rfl rfl (by (conv => lhs; whnf) <;> rfl) ?_; refine zw1 ?_; refine zns ?_; refine wp_ret ?_; refine block_ret ?_; refine seq_ret ?_; refine ret_of ?_; refine rk_tmp (by (conv => lhs; whnf) <;> rfl) ?_; refine rk_nil ?_
    exact ⟨rfl, _, hs.closeR.2, hn.closeR, S.up1 (S.drop (S.up2 hS))⟩
  refine zsr ?_; refine wpO_cons ?_; refine op1_eqlI rfl rfl rfl ?_; refine zw1 ?_; refine zns ?_
  refine wp_dec rfl (fun c3 => ?_) (fun c3 => ?_)
  · refine zsr ?_; refine zw1 ?_; refine wpO_cons ?_; refine op1_call1 rfl (by (conv => lhs; whnf) <;> rfl) ?_
    refine wpF_mono (L17 (S.up1 hS) hs.ok) ?_
    rintro _ H2 ⟨ve, rfl, hS⟩
    refine zw1 ?_; refine wpO_cons ?_; refine op1_extract rfl rfl rfl ?_; refine wpO_cons ?_; refine op1_extract rfl rfl rfl ?_; refine zw1 ?_; refine zw1 ?_; refine zns ?_; refine zsr ?_; refine zw1 ?_; refine wpO_cons ?_; refine op1_call1 rfl (by (conv => lhs; whnf) <;> rfl) ?_
    refine wpF_mono (L57 (S.up3 hS) hs.ok) ?_
    rw [hs.closeW.1]
    rintro _ H3 ⟨ve2, rfl, hS⟩
    refine zw1 ?_; refine wpO_cons ?_; refine op1_extract rfl rfl rfl ?_; refine wpO_cons ?_; refine op1_extract rfl rfl rfl ?_; refine zw1 ?_; refine zw1 ?_; refine zns ?_; refine zsr ?_; refine zw1 ?_; refine zw1 ?_; refine wpO_cons ?_; refine op1_eqlI_s rfl rfl rfl ?_; refine zw1 ?_; refine zw1 ?_; refine zw1 ?_; refine wpO_cons ?_; refine op1_call2 rfl (by (conv => lhs; whnf) <;> rfl) (by (conv => lhs; whnf) <;> rfl) ?_
    refine wpF_mono (L56 (S.up2 hS) (closeW_le hs.ok)) ?_
    rintro _ H4 ⟨rfl, hS⟩
    refine wpO_cons ?_; refine op1_pick_t rfl rfl (by (conv => lhs; whnf) <;> rfl) ?_; refine zw1 ?_; refine zns ?_; refine wp_ret ?_; refine block_ret ?_; refine seq_ret ?_; refine ret_of ?_; refine rk_tmp (by (conv => lhs; whnf) <;> rfl) ?_; refine rk_nil ?_
    exact ⟨rfl, _, hs.closeW.2, hn.closeW, S.up1 (S.drop (S.up2 hS))⟩
  skip
  refine wp_cut [94] (fun vs H' => vs = [.bool (decide (x.kind.tmod 11 = 4 ∨ x.kind.tmod 11 = 5 ∨ x.kind.tmod 11 = 6))] ∧ H1 = H') ?_ ?_
  · refine zsr ?_; refine wpO_cons ?_; refine op1_eqlI rfl rfl rfl ?_; refine zw1 ?_; refine zns ?_; refine wp_cond rfl (fun hc0 => ?_) (fun hc0 => ?_); (focus (refine wp_skip ?_; refine cut1 (by (conv => lhs; whnf) <;> rfl) ?_; (exact ⟨bool_leaf (by simp_all <;> omega), rfl⟩))); (focus (refine zsr ?_; refine wpO_cons ?_; refine op1_eqlI rfl rfl rfl ?_; refine zw1 ?_; refine zns ?_; refine wp_cond rfl (fun hc1 => ?_) (fun hc1 => ?_); (focus (refine wp_skip ?_; refine cut1 (by (conv => lhs; whnf) <;> rfl) ?_; (exact ⟨bool_leaf (by simp_all <;> omega), rfl⟩))); (focus (refine wp_region ?_; refine wpO_cons ?_; refine op1_eqlI rfl rfl rfl ?_; refine zw1 ?_; refine wpO_nil ?_; refine cut1 (by (conv => lhs; whnf) <;> rfl) ?_; (exact ⟨bool_leaf (by simp_all <;> omega), rfl⟩)))))
  rintro vs2 T2 H2 ⟨rfl, rfl⟩
  refine wp_dec rfl (fun c4 => ?_) (fun c4 => ?_)
  · refine zsr ?_; refine zw1 ?_; refine wpO_cons ?_; refine op1_faddr0 rfl rfl ?_; refine wpO_cons ?_; refine op1_load rfl rfl (by exact S.g0 hS) rfl ?_; refine wpO_cons ?_; refine op1_faddr0 rfl rfl ?_; refine wpO_cons ?_; refine op1_load rfl rfl (by exact S.g0 hS) rfl ?_; refine wpO_cons ?_; refine op1_faddr0 rfl rfl ?_; refine wpO_cons ?_; refine op1_load rfl rfl (by exact S.g0 hS) rfl ?_; refine wpO_cons ?_; refine op1_call4 rfl (by (conv => lhs; whnf) <;> rfl) (by (conv => lhs; whnf) <;> rfl) (by (conv => lhs; whnf) <;> rfl) (by (conv => lhs; whnf) <;> rfl) ?_
    refine wpF_mono (L12 (S.up1 hS) hs.ok) ?_
    rintro _ H2 ⟨vd, ve, rfl, hS⟩
    refine zw1 ?_; refine wpO_cons ?_; refine op1_extract rfl rfl rfl ?_; refine wpO_cons ?_; refine op1_extract rfl rfl rfl ?_; refine wpO_cons ?_; refine op1_extract rfl rfl rfl ?_; refine wpO_cons ?_; refine op1_extract rfl rfl rfl ?_; (iterate 4 refine zw1 ?_); refine zns ?_; refine zsr ?_; refine zw1 ?_; refine wpO_cons ?_; refine op1_faddr0 rfl rfl ?_; refine wpO_cons ?_; refine op1_load rfl rfl (by exact S.g3 hS) rfl ?_; refine wpO_cons ?_; refine op1_faddr0 rfl rfl ?_; refine wpO_cons ?_; refine op1_load rfl rfl (by exact S.g3 hS) rfl ?_; refine wpO_cons ?_; refine op1_faddr0 rfl rfl ?_; refine wpO_cons ?_; refine op1_load rfl rfl (by exact S.g3 hS) rfl ?_; refine wpO_cons ?_; refine op1_call4 rfl (by (conv => lhs; whnf) <;> rfl) (by (conv => lhs; whnf) <;> rfl) (by (conv => lhs; whnf) <;> rfl) (by (conv => lhs; whnf) <;> rfl) ?_
    refine wpF_mono (L58 (S.up4 hS) hs.ok) ?_
    rw [(hs.read _ _ _).1]
    rintro _ H3 ⟨vd2, ve2, rfl, hS⟩
    obtain ⟨_, hr1, _⟩ := hS.rd
    obtain ⟨_, hr2, _⟩ := (S.up3 hS).rd
    refine zw1 ?_; refine wpO_cons ?_; refine op1_extract rfl rfl rfl ?_; refine wpO_cons ?_; refine op1_extract rfl rfl rfl ?_; refine wpO_cons ?_; refine op1_extract rfl rfl rfl ?_; refine wpO_cons ?_; refine op1_extract rfl rfl rfl ?_; (iterate 4 refine zw1 ?_); refine zns ?_; refine zsr ?_; refine zw1 ?_; refine zw1 ?_; refine wpO_cons ?_; refine op1_call2 rfl (by (conv => lhs; whnf) <;> rfl) (by (conv => lhs; whnf) <;> rfl) ?_
    refine wpF_mono (L14 hr2 hr1) ?_
    rintro _ _ ⟨⟨b, rfl, hb⟩, rfl⟩
    obtain rfl := hb rfl
    refine zw1 ?_; refine zw1 ?_; refine zw1 ?_; refine wpO_cons ?_; refine op1_eqlB_s rfl rfl rfl rfl ?_; refine wpO_cons ?_; refine op1_pick_t rfl rfl (by (conv => lhs; whnf) <;> rfl) ?_; refine zw1 ?_; refine zw1 ?_; refine zw1 ?_; refine wpO_cons ?_; refine op1_call2 rfl (by (conv => lhs; whnf) <;> rfl) (by (conv => lhs; whnf) <;> rfl) ?_
    refine wpF_mono (L56 (S.up4 (S.up1 hS)) (read_le hs.ok _ _ _)) ?_
    rintro _ H4 ⟨rfl, hS⟩
    refine wpO_cons ?_; refine op1_pick_t rfl rfl (by (conv => lhs; whnf) <;> rfl) ?_; refine zw1 ?_; refine zw1 ?_; refine zw1 ?_; refine wpO_cons ?_; refine op1_eqlI_s rfl rfl rfl ?_; refine wpO_cons ?_; refine op1_pick_t rfl rfl (by (conv => lhs; whnf) <;> rfl) ?_; refine zw1 ?_; refine zns ?_; refine wp_ret ?_; refine block_ret ?_; refine seq_ret ?_; refine ret_of ?_; refine rk_tmp (by (conv => lhs; whnf) <;> rfl) ?_; refine rk_nil ?_
    exact ⟨rfl, _, (hs.read _ _ _).2, hn.read _ _ _, S.up1 (S.drop (S.up2 (S.drop (S.up1 (S.drop hS)))))⟩
  skip
  refine wp_cut [142] (fun vs H' => vs = [.bool (decide (x.kind.tmod 11 = 7 ∨ x.kind.tmod 11 = 8 ∨ x.kind.tmod 11 = 9))] ∧ H1 = H') ?_ ?_
  · refine zsr ?_; refine wpO_cons ?_; refine op1_eqlI rfl rfl rfl ?_; refine zw1 ?_; refine zns ?_; refine wp_cond rfl (fun hc0 => ?_) (fun hc0 => ?_); (focus (refine wp_skip ?_; refine cut1 (by (conv => lhs; whnf) <;> rfl) ?_; (exact ⟨bool_leaf (by simp_all <;> omega), rfl⟩))); (focus (refine zsr ?_; refine wpO_cons ?_; refine op1_eqlI rfl rfl rfl ?_; refine zw1 ?_; refine zns ?_; refine wp_cond rfl (fun hc1 => ?_) (fun hc1 => ?_); (focus (refine wp_skip ?_; refine cut1 (by (conv => lhs; whnf) <;> rfl) ?_; (exact ⟨bool_leaf (by simp_all <;> omega), rfl⟩))); (focus (refine wp_region ?_; refine wpO_cons ?_; refine op1_eqlI rfl rfl rfl ?_; refine zw1 ?_; refine wpO_nil ?_; refine cut1 (by (conv => lhs; whnf) <;> rfl) ?_; (exact ⟨bool_leaf (by simp_all <;> omega), rfl⟩)))))
  rintro vs2 T2 H2 ⟨rfl, rfl⟩
  refine wp_dec rfl (fun c5 => ?_) (fun c5 => ?_)
  · refine wp_seq ?_; refine wp_regionD ?_; refine zd1 ?_; refine wpD_cons ?_; refine op1_faddr0 rfl rfl ?_; refine wpD_cons ?_; refine op1_load rfl rfl (by exact S.g0 hS) rfl ?_; refine wpD_cons ?_; refine op1_faddr0 rfl rfl ?_; refine wpD_cons ?_; refine op1_load rfl rfl (by exact S.g0 hS) rfl ?_; refine wpD_cons ?_; refine op1_faddr0 rfl rfl ?_; refine wpD_cons ?_; refine op1_load rfl rfl (by exact S.g0 hS) rfl ?_; refine wpD_cons ?_; refine op1_call1 rfl (by (conv => lhs; whnf) <;> rfl) ?_
    refine wpF_mono (L39 (hd _) hS (by omega)) ?_
    rintro vc H2 hS
    refine wpD_cons ?_; refine op1_call4 rfl (by (conv => lhs; whnf) <;> rfl) (by (conv => lhs; whnf) <;> rfl) (by (conv => lhs; whnf) <;> rfl) (by (conv => lhs; whnf) <;> rfl) ?_
    refine wpF_mono (L11 RD.head (S.up2 hS) hs.ok (by omega)) ?_
    rintro _ H3 ⟨ve, rfl, hS⟩
    refine zd1 ?_; refine wpD_cons ?_; refine op1_extract rfl rfl rfl ?_; refine wpD_cons ?_; refine op1_extract rfl rfl rfl ?_; refine wpD_cons ?_; refine op1_extract rfl rfl rfl ?_; refine wpD_cons ?_; refine op1_extract rfl rfl rfl ?_; (iterate 4 refine zd1 ?_); refine wpD_nil ?_; refine dk_of ?_ ?_; (iterate 2 refine chk_skip ?_); refine chk_cons 16 rfl rfl rfl ?_ ?_; refine chkFs_cons 11 rfl rfl ?_ ?_; exact chk_load rfl (by exact S.g0 (by assumption)) rfl rfl; refine chkFs_cons 10 rfl rfl ?_ ?_; exact chk_load rfl (by exact S.g1 (by assumption)) rfl rfl; exact chkFs_nil; refine chk_skip ?_; refine chk_cons 14 rfl rfl rfl ?_ ?_; refine chkFs_cons 11 rfl rfl ?_ ?_; exact chk_load rfl (by exact S.g0 (by assumption)) rfl rfl; exact chkFs_nil; refine chk_skip ?_; refine chk_cons 12 rfl rfl rfl ?_ ?_; refine chkFs_cons 11 rfl rfl ?_ ?_; exact chk_load rfl (by exact S.g0 (by assumption)) rfl rfl; refine chkFs_cons 10 rfl rfl ?_ ?_; exact chk_load rfl (by exact S.g1 (by assumption)) rfl rfl; exact chkFs_nil; (iterate 11 refine chk_skip ?_); exact chk_end; refine seq_normal ?_; refine zsr ?_; refine zw1 ?_; refine wpO_cons ?_; refine op1_faddr0 rfl rfl ?_; refine wpO_cons ?_; refine op1_load rfl rfl (by exact S.g3 hS) rfl ?_; refine wpO_cons ?_; refine op1_faddr0 rfl rfl ?_; refine wpO_cons ?_; refine op1_load rfl rfl (by exact S.g3 hS) rfl ?_; refine wpO_cons ?_; refine op1_faddr0 rfl rfl ?_; refine wpO_cons ?_; refine op1_load rfl rfl (by exact S.g3 hS) rfl ?_; refine wpO_cons ?_; refine op1_call4 rfl (by (conv => lhs; whnf) <;> rfl) (by (conv => lhs; whnf) <;> rfl) (by (conv => lhs; whnf) <;> rfl) (by (conv => lhs; whnf) <;> rfl) ?_
    refine wpF_mono (L59 (hd _) (S.up4 hS) hs.ok (by omega)) ?_
    rw [(hs.write _ _ _).1]
    rintro _ H4 ⟨ve2, rfl, hS⟩
    refine zw1 ?_; refine wpO_cons ?_; refine op1_extract rfl rfl rfl ?_; refine wpO_cons ?_; refine op1_extract rfl rfl rfl ?_; refine wpO_cons ?_; refine op1_extract rfl rfl rfl ?_; refine wpO_cons ?_; refine op1_extract rfl rfl rfl ?_; (iterate 4 refine zw1 ?_); refine zns ?_; refine zsr ?_; refine zw1 ?_; refine zw1 ?_; refine wpO_cons ?_; refine op1_eqlI_s rfl rfl rfl ?_; refine zw1 ?_; refine zw1 ?_; refine zw1 ?_; refine wpO_cons ?_; refine op1_eqlB_s rfl rfl rfl rfl ?_; refine wpO_cons ?_; refine op1_pick_t rfl rfl (by (conv => lhs; whnf) <;> rfl) ?_; refine zw1 ?_; refine zw1 ?_; refine zw1 ?_; refine wpO_cons ?_; refine op1_call2 rfl (by (conv => lhs; whnf) <;> rfl) (by (conv => lhs; whnf) <;> rfl) ?_
    refine wpF_mono (L56 (S.up2 hS) (write_le hs.ok _ _ _)) ?_
    rintro _ H5 ⟨rfl, hS⟩
    refine wpO_cons ?_; refine op1_pick_t rfl rfl (by (conv => lhs; whnf) <;> rfl) ?_; refine zw1 ?_; refine zw1 ?_; refine zw1 ?_; refine wpO_cons ?_; refine op1_eqlI_s rfl rfl rfl ?_; refine wpO_cons ?_; refine op1_pick_t rfl rfl (by (conv => lhs; whnf) <;> rfl) ?_; refine zw1 ?_; refine zns ?_; refine wp_ret ?_; refine block_ret ?_; refine seq_ret ?_; refine ret_of ?_; refine rk_tmp (by (conv => lhs; whnf) <;> rfl) ?_; refine rk_nil ?_
    exact ⟨rfl, _, (hs.write _ _ _).2, hn.write _ _ _, S.up1 (S.drop (S.up2 (S.drop (S.up2 hS))))⟩
  refine wp_skip ?_; refine block_normal ?_; refine seq_normal ?_; refine zsr ?_; refine zw1 ?_; refine wpO_cons ?_; refine op1_faddr0 rfl rfl ?_; refine wpO_cons ?_; refine op1_load rfl rfl (by exact S.g0 hS) rfl ?_; refine wpO_cons ?_; refine op1_call2 rfl (by (conv => lhs; whnf) <;> rfl) (by (conv => lhs; whnf) <;> rfl) ?_
  refine wpF_mono (L18 (S.up1 hS) hs.ok) ?_
  rintro _ H2 ⟨ve, rfl, hS⟩
  refine zw1 ?_; refine wpO_cons ?_; refine op1_extract rfl rfl rfl ?_; refine wpO_cons ?_; refine op1_extract rfl rfl rfl ?_; refine wpO_cons ?_; refine op1_extract rfl rfl rfl ?_; refine wpO_cons ?_; refine op1_allocS rfl hS ?_; intro p2 H3 hS; refine wpO_cons ?_; (refine op1_storeNS rfl rfl (by (conv => lhs; whnf) <;> rfl) rfl rfl (S.up0 hS) (Nat.le_of_ble_eq_true rfl) ?_; intro H4 hS; replace hS := S.dn0 hS); refine zw1 ?_; refine zw1 ?_; refine zns ?_; refine zsr ?_; refine zw1 ?_; refine wpO_cons ?_; refine op1_faddr0 rfl rfl ?_; refine wpO_cons ?_; refine op1_load rfl rfl (by exact S.g3 hS) rfl ?_; refine wpO_cons ?_; refine op1_call2 rfl (by (conv => lhs; whnf) <;> rfl) (by (conv => lhs; whnf) <;> rfl) ?_
  refine wpF_mono (L60 (S.up4 hS) hs.ok) ?_
  rw [(hs.cancel _).1]
  rintro _ H3 ⟨ve2, rfl, hS⟩
  refine zw1 ?_; refine wpO_cons ?_; refine op1_extract rfl rfl rfl ?_; refine wpO_cons ?_; refine op1_extract rfl rfl rfl ?_; refine wpO_cons ?_; refine op1_extract rfl rfl rfl ?_; refine wpO_cons ?_; refine op1_allocS rfl hS ?_; intro p3 H5 hS; refine wpO_cons ?_; (refine op1_storeNS rfl rfl (by (conv => lhs; whnf) <;> rfl) rfl rfl (S.up0 hS) (Nat.le_of_ble_eq_true rfl) ?_; intro H6 hS; replace hS := S.dn0 hS); refine zw1 ?_; refine zw1 ?_; refine zns ?_; refine zsr ?_; refine zw1 ?_; refine zw1 ?_; refine wpO_cons ?_; refine op1_eqlI_s rfl rfl rfl ?_; refine zw1 ?_; refine wpO_cons ?_; refine op1_load_4 rfl rfl (by exact S.g3 hS) rfl rfl ?_; refine wpO_cons ?_; refine op1_load_4 rfl rfl (by exact S.g0 hS) rfl rfl ?_; refine wpO_cons ?_; refine op1_call2 rfl (by (conv => lhs; whnf) <;> rfl) (by (conv => lhs; whnf) <;> rfl) ?_
  have hde := cancel_data (prog · []) s x.thread
  refine wpF_mono (L61 (e := (s.cancelG (prog · []) x.thread).e) (v1 := .slice none 0 0) (v2 := .slice none 0 0) hS (by rw [hde]; exact RD.nil) (by rw [hde]; exact RD.nil)) ?_
  rintro _ H4 ⟨rfl, hS⟩
  refine wpO_cons ?_; refine op1_pick_t rfl rfl (by (conv => lhs; whnf) <;> rfl) ?_; refine zw1 ?_; refine zw1 ?_; refine zw1 ?_; refine wpO_cons ?_; refine op1_call2 rfl (by (conv => lhs; whnf) <;> rfl) (by (conv => lhs; whnf) <;> rfl) ?_
  refine wpF_mono (L56 (S.up4 (S.up1 hS)) (cancel_le hs.ok _)) ?_
  rintro _ H5 ⟨rfl, hS⟩
  refine wpO_cons ?_; refine op1_pick_t rfl rfl (by (conv => lhs; whnf) <;> rfl) ?_; refine zw1 ?_; refine zns ?_; refine wp_ret ?_; refine ret_of ?_; refine rk_tmp (by (conv => lhs; whnf) <;> rfl) ?_; refine rk_nil ?_
  exact ⟨rfl, _, (hs.cancel _).2, hn.cancel _, S.up1 (S.drop (S.up2 (S.drop (S.up1 (S.drop hS)))))⟩
end Go.E.Pi
/- PipeSettled, as the evaluator runs it: true, for any sizes and acts. -/
namespace Go.E.Pi
open Go Go.E Go.Proofs.Ytgmmkajjigmjoaa Go.Proofs
set_option linter.unusedVariables false
set_option linter.unusedSimpArgs false
set_option maxRecDepth 100000
theorem restNew' {c : Nat} {a : Int} (hc : 1 ≤ c ∧ c ≤ 4096) (ha : 1 ≤ a ∧ a ≤ c) : Rest (PP.new c a) :=
  ⟨okNew hc ha, fun w hw => by simp [PP.new] at hw, rfl⟩
theorem settled {s : PP} (h : Rest s) : ¬ (0 < s.buf.length ∧ 0 < s.readers.length) := by
  rintro ⟨h1, h2⟩
  rcases stepR_none.1 (stepI_none.1 h.no).1 with h3 | h3
  · rw [h3] at h2; simp at h2
  · omega
theorem L7 {B : AHeap} {c0 a0 : Int} {a : Option Addr} {c : Nat} {xs : List ActM} (hcx : xs.length ≤ c) (hA : Acts B a c xs) : wpF C 7 [.int .i64 c0, .int .i64 a0, .slice a xs.length c] B fun v _ => v = .bool true := by
  have hS := S.start B
  refine wpF_ofW o7 rfl rfl ?_
  by_cases hv : 1 ≤ c0 ∧ c0 ≤ 4096 ∧ 1 ≤ a0 ∧ a0 ≤ c0
  · obtain ⟨cp, rfl⟩ : ∃ cp : Nat, c0 = cp := ⟨c0.toNat, by omega⟩
    refine zsr ?_; refine zw1 ?_; refine zns ?_; refine zsr ?_; refine zw1 ?_; refine zw1 ?_; refine wpO_cons ?_; refine op1_call2 rfl (by (conv => lhs; whnf) <;> rfl) (by (conv => lhs; whnf) <;> rfl) ?_
    refine wpF_mono (L25 hS (by omega) (by omega)) ?_
    rintro _ H1 ⟨p, rfl, hS⟩
    refine zw1 ?_; refine wpO_cons ?_; refine op1_extract rfl rfl rfl ?_; refine wpO_cons ?_; refine op1_extract rfl rfl rfl ?_; refine zw1 ?_; refine zw1 ?_; refine zns ?_; refine wp_seq ?_; refine zsr ?_; refine zw1 ?_; refine wpO_cons ?_; refine op1_call1 rfl (by (conv => lhs; whnf) <;> rfl) ?_
    refine wpF_mono (L9 hS hA) ?_
    rintro _ H3 ⟨⟨b, rfl, hfew⟩, hS⟩
    refine wpO_cons ?_; refine op1_not rfl rfl ?_; refine zw1 ?_; refine wpO_cons ?_
    cases b
    · refine op1_skip rfl ?_; refine wpO_cons ?_; refine op1_skip rfl ?_; refine wpO_cons ?_; refine op1_pick_t rfl rfl (by (conv => lhs; whnf) <;> rfl) ?_; refine zw1 ?_; refine wpO_cons ?_; refine op1_skip rfl ?_; refine wpO_cons ?_; refine op1_skip rfl ?_; refine wpO_cons ?_; refine op1_pick_t rfl rfl (by (conv => lhs; whnf) <;> rfl) ?_; refine zns ?_; refine wp_true rfl ?_; refine zsr ?_; refine wpO_cons ?_; refine op1_call0 rfl  ?_; refine wpF_known rfl (globAll _) ?_; refine zw1 ?_; refine zns ?_; refine wp_ret ?_; refine seq_ret ?_; refine ret_of ?_; refine rk_tmp (by (conv => lhs; whnf) <;> rfl) ?_; refine rk_nil ?_
      rfl
    have hfew := hfew.1 rfl
    refine op1_call0 rfl  ?_; refine wpF_known rfl (globAll _) ?_; refine wpO_cons ?_; refine op1_not_t rfl rfl ?_; refine wpO_cons ?_; refine op1_pick_f rfl rfl (by (conv => lhs; whnf) <;> rfl) ?_; refine zw1 ?_; refine zw1 ?_; refine wpO_cons ?_; refine op1_neqI_s rfl rfl rfl ?_; refine wpO_cons ?_; refine op1_pick_f rfl rfl (by (conv => lhs; whnf) <;> rfl) ?_; refine zns ?_; refine wp_false rfl ?_; refine wp_skip ?_; refine seq_normal ?_; refine zsr ?_; refine zw1 ?_; refine zw1 ?_; refine wpO_cons ?_; refine op1_call2 rfl (by (conv => lhs; whnf) <;> rfl) (by (conv => lhs; whnf) <;> rfl) ?_
    refine wpF_mono (L26 hS (by omega) (by omega)) ?_
    rintro _ H2 ⟨q, rfl, hS⟩
    replace hS := S.up1 hS
    refine zw1 ?_; refine wpO_cons ?_; refine op1_extract rfl rfl rfl ?_; refine wpO_cons ?_; refine op1_extract rfl rfl rfl ?_; refine zw1 ?_; refine zw1 ?_; refine zns ?_; refine wp_seq ?_; refine zsr ?_; refine zw1 ?_; refine wpO_cons ?_; refine op1_len rfl rfl ?_; refine zw1 ?_; refine zns ?_; refine wp_block ?_
    refine wp_loop [40] (fun k vs H' => ∃ (i : Nat) (s : PP), vs = [.int .i64 i] ∧ i + k = xs.length ∧ Rest s ∧ NT cp s ∧ S B H' (repP p s :: repQ q s :: []))
      ⟨xs.length, 0, _, rfl, by omega, restNew' (by omega) (by omega), ⟨by simp [trs, PP.new], rfl⟩, hS⟩ ?_
    clear hS
    rintro k vs T' H4 ⟨i, s, rfl, hk, hs, hn, hS⟩
    refine zsr ?_; refine wpO_cons ?_; refine op1_lss rfl rfl rfl ?_; refine zns ?_; refine wp_seq ?_
    refine wp_dec rfl (fun hlt => ?_) (fun hlt => ?_)
    · obtain ⟨x, hx⟩ : ∃ x, xs[i]? = some x := ⟨xs[i]'(by omega), by simp⟩
      obtain ⟨b, o, cs, rfl, hg, hb, hle, hat⟩ := hA.at_ i x hx
      have hg1 := (hS.base b hb).trans hg
      have hxo := hA.ok x (List.mem_of_getElem? hx)
      have h50 := hfew.1
      have hx5 := hfew.2 x (List.mem_of_getElem? hx)
      refine wp_skip ?_; refine seq_normal ?_; refine wp_seq ?_; refine wp_block ?_; refine zsr ?_; refine wpO_cons ?_; refine op1_iaddr rfl rfl rfl (by omega) (by omega) ?_; refine wpO_cons ?_
      refine op1_loadN rfl rfl hg1 hle hat ?_
      unfold ActM.cells
      refine wpO_cons ?_; refine op1_allocS rfl hS ?_; intro p1 H5 hS; refine wpO_cons ?_; (refine op1_storeNS rfl rfl (by (conv => lhs; whnf) <;> rfl) rfl rfl (S.up0 hS) (Nat.le_of_ble_eq_true rfl) ?_; intro H6 hS; replace hS := S.dn0 hS); refine zns ?_; refine zsr ?_; refine zw1 ?_; refine zw1 ?_; refine wpO_cons ?_; refine op1_load_5 rfl rfl (by exact S.g0 hS) rfl rfl ?_; refine wpO_cons ?_; refine op1_call3 rfl (by (conv => lhs; whnf) <;> rfl) (by (conv => lhs; whnf) <;> rfl) (by (conv => lhs; whnf) <;> rfl) ?_
      refine wpF_mono (L27n (x := x) (S.dn2 hS) hs hn hxo hx5) ?_
      rintro _ H6 ⟨rfl, s2, hs2, hn2, hS⟩
      have hrl := hs2.ok.rl
      have hwl := hs2.ok.wl
      refine zns ?_; refine zsr ?_; refine zw1 ?_; refine wpO_cons ?_; refine op1_call1 rfl (by (conv => lhs; whnf) <;> rfl) ?_
      refine wpF_mono (L21 hS (by omega)) ?_
      rintro v5 H5 hS
      refine zw1 ?_; refine wpO_cons ?_; refine op1_call1 rfl (by (conv => lhs; whnf) <;> rfl) ?_
      refine wpF_mono (L22 (S.up1 hS) (by omega)) ?_
      rintro v6 H7 hS
      obtain ⟨a5, c5, rfl⟩ := (S.up2 hS).i1
      obtain ⟨a6, c6, rfl⟩ := hS.i1
      obtain ⟨r6, hr6, _⟩ := hS.rd
      replace hS := S.up2 hS
      refine wpO_cons ?_
      refine op1_appRS rfl rfl rfl rfl hr6 (by simp [i64s]) (by simp [i64s, Value.oneCell']) hS (by simp; omega) ?_
      intro a7 c7 H8 hS
      rw [← i64s_append] at hS
      refine zw1 ?_; refine zns ?_; refine zsr ?_; refine zw1 ?_; refine wpO_cons ?_; refine op1_call1 rfl (by (conv => lhs; whnf) <;> rfl) ?_
      refine wpF_mono (L32 hS (by simp; omega)) ?_
      rintro _ H9 ⟨m, hm, hS⟩
      have hmn : m.Nodup := (hm.nodup_iff).2 hn2.nd
      have hml := hm.length_eq
      simp only [List.length_append, List.length_map] at hml
      have hbc := hs2.ok.buf
      have hcp := hn2.cap
      have hset := settled hs2
      refine zns ?_; refine zsr ?_; refine zw1 ?_; refine wpO_cons ?_; refine op1_call1 rfl (by (conv => lhs; whnf) <;> rfl) ?_
      refine wpF_mono (L13 (S.up2 hS)) ?_
      rintro _ _ ⟨rfl, rfl⟩
      refine wpO_cons ?_; refine op1_lss rfl rfl rfl ?_; refine zw1 ?_; refine zw1 ?_; refine wpO_cons ?_; refine op1_call1 rfl (by (conv => lhs; whnf) <;> rfl) ?_
      refine wpF_mono (L13 (S.up2 hS)) ?_
      rintro _ _ ⟨rfl, rfl⟩
      refine zw1 ?_; refine wpO_cons ?_; refine op1_gtr rfl rfl rfl ?_; refine wpO_cons ?_; refine op1_pick_f rfl rfl (by (conv => lhs; whnf) <;> rfl) ?_; refine zw1 ?_; refine wpO_cons ?_
      refine op1_dec rfl (fun h0 => ?_) (fun h1 => ?_)
      · exact absurd h0 (by omega)
      refine op1_mov rfl (by (conv => lhs; whnf) <;> rfl) ?_; refine wpO_cons ?_; refine op1_call1 rfl (by (conv => lhs; whnf) <;> rfl) ?_
      refine wpF_mono (L13 (S.up2 hS)) ?_
      rintro _ _ ⟨rfl, rfl⟩
      refine wpO_cons ?_; refine op1_gtr rfl rfl rfl ?_; refine zw1 ?_; refine wpO_cons ?_
      refine op1_dec rfl (fun h2 => ?_) (fun h2 => ?_)
      · refine op1_mov rfl (by (conv => lhs; whnf) <;> rfl) ?_; refine wpO_cons ?_; refine op1_call1 rfl (by (conv => lhs; whnf) <;> rfl) ?_
        refine wpF_mono (L21 (S.up2 hS) (by omega)) ?_
        rintro v8 H10 hS
        obtain ⟨a8, c8, rfl⟩ := hS.i1
        have hr0 : s2.readers = [] := List.eq_nil_of_length_eq_zero (by omega)
        rw [hr0] at hS ⊢
        replace hS := S.dn2 (S.drop hS)
        refine wpO_cons ?_; refine op1_len rfl rfl ?_; refine wpO_cons ?_; refine op1_gtr rfl rfl rfl ?_; refine wpO_cons ?_; refine op1_pick_t rfl rfl (by (conv => lhs; whnf) <;> rfl) ?_; refine wpO_cons ?_; refine op1_pick_f rfl rfl (by (conv => lhs; whnf) <;> rfl) ?_; refine zw1 ?_; refine zw1 ?_; refine wpO_cons ?_; refine op1_call1 rfl (by (conv => lhs; whnf) <;> rfl) ?_
        refine wpF_mono (L34 (l := m) RD.head hS (by omega)) ?_
        rintro v9 H11 hS
        obtain ⟨a9, c9, rfl⟩ := hS.i1
        refine wpO_cons ?_; refine op1_call1 rfl (by (conv => lhs; whnf) <;> rfl) ?_
        refine wpF_mono (L33 (l := m) RD.head hS (by omega) hmn) ?_
        rintro _ _ ⟨rfl, rfl⟩
        refine wpO_cons ?_; refine op1_len rfl rfl ?_; refine zw1 ?_; refine wpO_cons ?_; refine op1_len rfl rfl ?_; refine wpO_cons ?_; refine op1_neqI rfl rfl rfl ?_; refine wpO_cons ?_; refine op1_pick_f rfl rfl (by (conv => lhs; whnf) <;> rfl) ?_; refine zns ?_
        refine wp_ndec rfl (fun hq => ?_) (fun hq => ?_)
        · exact absurd (by simp_all) hq
        refine wp_skip ?_; refine block_normal ?_; refine seq_normal ?_; refine wp_region ?_; refine wpO_cons ?_; refine op1_add rfl rfl rfl (by exact wrap_i64 (by omega) (by omega)) ?_; refine zw1 ?_; refine wpO_nil ?_
        exact ⟨k - 1, by omega, i + 1, s2, rfl, by omega, hs2, hn2, S.drop (S.up2 (S.drop (S.drop (S.drop hS))))⟩
      · refine op1_skip rfl ?_; refine wpO_cons ?_; refine op1_skip rfl ?_; refine wpO_cons ?_; refine op1_skip rfl ?_; refine wpO_cons ?_; refine op1_skip rfl ?_; refine wpO_cons ?_; refine op1_pick_f rfl rfl (by (conv => lhs; whnf) <;> rfl) ?_; refine wpO_cons ?_; refine op1_pick_f rfl rfl (by (conv => lhs; whnf) <;> rfl) ?_; refine zw1 ?_; refine zw1 ?_; refine wpO_cons ?_; refine op1_call1 rfl (by (conv => lhs; whnf) <;> rfl) ?_
        refine wpF_mono (L34 (l := m) RD.head hS (by omega)) ?_
        rintro v9 H11 hS
        obtain ⟨a9, c9, rfl⟩ := hS.i1
        refine wpO_cons ?_; refine op1_call1 rfl (by (conv => lhs; whnf) <;> rfl) ?_
        refine wpF_mono (L33 (l := m) RD.head hS (by omega) hmn) ?_
        rintro _ _ ⟨rfl, rfl⟩
        refine wpO_cons ?_; refine op1_len rfl rfl ?_; refine zw1 ?_; refine wpO_cons ?_; refine op1_len rfl rfl ?_; refine wpO_cons ?_; refine op1_neqI rfl rfl rfl ?_; refine wpO_cons ?_; refine op1_pick_f rfl rfl (by (conv => lhs; whnf) <;> rfl) ?_; refine zns ?_
        refine wp_ndec rfl (fun hq => ?_) (fun hq => ?_)
        · exact absurd (by simp_all) hq
        refine wp_skip ?_; refine block_normal ?_; refine seq_normal ?_; refine wp_region ?_; refine wpO_cons ?_; refine op1_add rfl rfl rfl (by exact wrap_i64 (by omega) (by omega)) ?_; refine zw1 ?_; refine wpO_nil ?_
        exact ⟨k - 1, by omega, i + 1, s2, rfl, by omega, hs2, hn2, S.drop (S.up2 (S.drop (S.drop (S.drop hS))))⟩
    · refine wp_exit ?_; refine seq_exit ?_; refine iter_exit ?_; refine block_exit ?_; refine seq_normal ?_; refine zsr ?_; refine zw1 ?_; refine zns ?_; refine wp_ret ?_; refine ret_of ?_; refine rk_tmp (by (conv => lhs; whnf) <;> rfl) ?_; refine rk_nil ?_
      rfl
  · refine zsr ?_; refine zw1 ?_; refine zns ?_; refine zsr ?_; refine zw1 ?_; refine zw1 ?_; refine wpO_cons ?_; refine op1_call2 rfl (by (conv => lhs; whnf) <;> rfl) (by (conv => lhs; whnf) <;> rfl) ?_
    refine wpF_mono (L25e hS hv) ?_
    rintro _ H1 ⟨rfl, hS⟩
    refine zw1 ?_; refine wpO_cons ?_; refine op1_extract rfl rfl rfl ?_; refine wpO_cons ?_; refine op1_extract rfl rfl rfl ?_; refine zw1 ?_; refine zw1 ?_; refine zns ?_; refine wp_seq ?_; refine zsr ?_; refine zw1 ?_; refine wpO_cons ?_; refine op1_call1 rfl (by (conv => lhs; whnf) <;> rfl) ?_
    refine wpF_mono (L9 hS hA) ?_
    rintro _ H3 ⟨⟨b, rfl, hfew⟩, hS⟩
    refine wpO_cons ?_; refine op1_not rfl rfl ?_; refine zw1 ?_; refine wpO_cons ?_
    cases b
    · refine op1_skip rfl ?_; refine wpO_cons ?_; refine op1_skip rfl ?_; refine wpO_cons ?_; refine op1_pick_t rfl rfl (by (conv => lhs; whnf) <;> rfl) ?_; refine zw1 ?_; refine wpO_cons ?_; refine op1_skip rfl ?_; refine wpO_cons ?_; refine op1_skip rfl ?_; refine wpO_cons ?_; refine op1_pick_t rfl rfl (by (conv => lhs; whnf) <;> rfl) ?_; refine zns ?_; refine wp_true rfl ?_; refine zsr ?_; refine wpO_cons ?_; refine op1_call0 rfl  ?_; refine wpF_known rfl (globAll _) ?_; refine zw1 ?_; refine zns ?_; refine wp_ret ?_; refine seq_ret ?_; refine ret_of ?_; refine rk_tmp (by (conv => lhs; whnf) <;> rfl) ?_; refine rk_nil ?_
      rfl
    refine op1_call0 rfl  ?_; refine wpF_known rfl (globAll _) ?_; refine wpO_cons ?_; refine op1_not_t rfl rfl ?_; refine wpO_cons ?_; refine op1_pick_f rfl rfl (by (conv => lhs; whnf) <;> rfl) ?_; refine zw1 ?_; refine zw1 ?_; refine wpO_cons ?_; refine op1_neqI rfl rfl rfl ?_; refine wpO_cons ?_; refine op1_pick_f rfl rfl (by (conv => lhs; whnf) <;> rfl) ?_; refine zns ?_; refine wp_true rfl ?_; refine zsr ?_; refine wpO_cons ?_; refine op1_call0 rfl  ?_; refine wpF_known rfl (globAll _) ?_; refine zw1 ?_; refine zns ?_; refine wp_ret ?_; refine seq_ret ?_; refine ret_of ?_; refine rk_tmp (by (conv => lhs; whnf) <;> rfl) ?_; refine rk_nil ?_
    rfl
end Go.E.Pi
