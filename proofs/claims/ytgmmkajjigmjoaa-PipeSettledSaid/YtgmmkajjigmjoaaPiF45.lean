/- The pipe goes on: progress. -/
import Derived.Test.YtgmmkajjigmjoaaPiF123
namespace Go.E.Pi
open Go Go.E Go.Proofs.Ytgmmkajjigmjoaa Go.Proofs
set_option linter.unusedVariables false
set_option linter.unusedSimpArgs false
set_option maxRecDepth 100000
structure Ok (s : PP) : Prop where
  cap : 1 ≤ s.cap ∧ s.cap ≤ 4096
  atm : 1 ≤ s.atomic ∧ s.atomic ≤ s.cap
  o0 : 0 ≤ s.o0 ∧ s.o0 ≤ 64
  o1 : 0 ≤ s.o1 ∧ s.o1 ≤ 64
  rl : s.readers.length ≤ 64
  wl : s.writers.length ≤ 64
  rs : ∀ r ∈ s.readers, 0 < r.2 ∧ r.2 ≤ 4096
  ws : ∀ w ∈ s.writers, w.done < w.data.length ∧ w.data.length ≤ 4096
  buf : s.buf.length ≤ s.cap

/-- a reader goes on -/
def stepR (s : PP) : Option (Option EndM × PP) := match s.readers with
  | [] => none
  | x :: rs => if 0 < s.buf.length ∨ (s.o1 = 0 ∧ s.writers.length = 0) then
      some (some ⟨x.1, s.buf.take (min x.2 s.buf.length).toNat, (min x.2 s.buf.length).toNat, 0⟩, { s with buf := s.buf.drop (min x.2 s.buf.length).toNat, readers := rs }) else none
/-- how many bytes the first writer puts -/
def putN (s : PP) (w : Wr) : Nat := min (w.data.length - w.done) (s.cap - s.buf.length)
def stepI (s : PP) : Option (Option EndM × PP) := match s.writers with
  | [] => stepR s
  | w :: ws =>
    if s.o0 = 0 then some (some ⟨w.thread, [], w.done, 33⟩, { s with writers := ws })
    else if s.fits w.data.length = true then
      (if w.done + putN s w = w.data.length then some (some ⟨w.thread, [], (w.done + putN s w : Nat), 0⟩, { s with buf := s.buf ++ (w.data.drop w.done).take (putN s w), writers := ws })
       else some (none, { s with buf := s.buf ++ (w.data.drop w.done).take (putN s w), writers := { w with done := w.done + putN s w } :: ws }))
    else stepR s
def wsum (l : List Wr) : Nat := (l.map fun w => w.data.length - w.done + 1).sum
def mu (s : PP) : Nat := wsum s.writers + s.readers.length
def progN : Nat → PP → List EndM → List EndM × PP
  | 0, s, acc => (acc, s)
  | n + 1, s, acc => match stepI s with
    | none => (acc, s)
    | some (e, s') => progN n s' (acc ++ e.toList)
def prog (s : PP) (acc : List EndM) : List EndM × PP := progN (mu s) s acc

theorem stepR_mu {s s' : PP} {e : Option EndM} (h : stepR s = some (e, s')) : mu s' < mu s ∧ s'.cap = s.cap := by
  unfold stepR at h
  split at h
  · cases h
  · rename_i x rs hr
    split at h
    · cases h
      unfold mu
      rw [hr]
      simp
    · cases h
theorem stepI_mu {s s' : PP} {e : Option EndM} (hok : ∀ w ∈ s.writers, w.done < w.data.length) (h : stepI s = some (e, s')) : mu s' < mu s := by
  unfold stepI at h
  split at h
  · exact (stepR_mu h).1
  · rename_i w ws hw
    have hw1 := hok w (by rw [hw]; simp)
    split at h
    · cases h
      unfold mu wsum
      rw [hw]
      simp only [List.map_cons, List.sum_cons]
      omega
    · split at h
      · rename_i hf
        split at h
        · cases h
          unfold mu wsum
          rw [hw]
          simp only [List.map_cons, List.sum_cons]
          omega
        · rename_i hne
          cases h
          unfold mu wsum
          rw [hw]
          simp only [List.map_cons, List.sum_cons]
          unfold PP.fits at hf
          unfold putN at hne ⊢
          have : 0 < s.cap - s.buf.length := by
            split at hf
            · simp at hf; omega
            · simpa using hf
          omega
      · exact (stepR_mu h).1

theorem stepR_ok {s s' : PP} {e : Option EndM} (h : stepR s = some (e, s')) (hok : Ok s) : Ok s' := by
  unfold stepR at h
  split at h
  · cases h
  · rename_i x rs hr
    split at h
    · cases h
      have hrl := hok.rl
      rw [hr] at hrl
      exact ⟨hok.cap, hok.atm, hok.o0, hok.o1, by simp at hrl; simp only; omega, hok.wl, fun r hm => hok.rs r (by rw [hr]; simp [hm]), hok.ws, by have := hok.buf; simp only [List.length_drop]; omega⟩
    · cases h
theorem stepI_ok {s s' : PP} {e : Option EndM} (h : stepI s = some (e, s')) (hok : Ok s) : Ok s' := by
  unfold stepI at h
  split at h
  · exact stepR_ok h hok
  · rename_i w ws hw
    have hw1 := hok.ws w (by rw [hw]; simp)
    have hwl := hok.wl
    rw [hw] at hwl
    simp only [List.length_cons] at hwl
    have hb := hok.buf
    split at h
    · cases h
      exact ⟨hok.cap, hok.atm, hok.o0, hok.o1, hok.rl, by simp only; omega, hok.rs, fun r hm => hok.ws r (by rw [hw]; simp [hm]), hb⟩
    · have hpl : ((w.data.drop w.done).take (putN s w)).length = putN s w := by
        unfold putN; simp only [List.length_take, List.length_drop]; omega
      have hbl : (s.buf ++ (w.data.drop w.done).take (putN s w)).length ≤ s.cap := by
        rw [List.length_append, hpl]; unfold putN; omega
      split at h
      · split at h
        · cases h
          exact ⟨hok.cap, hok.atm, hok.o0, hok.o1, hok.rl, by simp only; omega, hok.rs, fun r hm => hok.ws r (by rw [hw]; simp [hm]), hbl⟩
        · rename_i hne
          cases h
          refine ⟨hok.cap, hok.atm, hok.o0, hok.o1, hok.rl, by simp only [List.length_cons]; omega, hok.rs, fun r hm => ?_, hbl⟩
          simp only [List.mem_cons] at hm
          rcases hm with rfl | hm
          · refine ⟨?_, hw1.2⟩
            show w.done + putN s w < w.data.length
            have : putN s w ≤ w.data.length - w.done := by unfold putN; omega
            omega
          · exact hok.ws r (by rw [hw]; simp [hm])
      · exact stepR_ok h hok

theorem progN_more {s : PP} {acc : List EndM} (hok : Ok s) : ∀ {n m : Nat}, mu s ≤ n → mu s ≤ m → progN n s acc = progN m s acc := by
  suffices h : ∀ k s acc, Ok s → mu s ≤ k → ∀ n m, mu s ≤ n → mu s ≤ m → progN n s acc = progN m s acc from fun {n m} h1 h2 => h _ s acc hok (Nat.le_refl _) n m h1 h2
  intro k
  induction k with
  | zero =>
    intro s acc hok h0 n m h1 h2
    have hs : stepI s = none := by
      cases hq : stepI s with
      | none => rfl
      | some x => have := stepI_mu (fun w hw => (hok.ws w hw).1) (show stepI s = some (x.1, x.2) from hq); omega
    cases n <;> cases m <;> simp [progN, hs]
  | succ k ih =>
    intro s acc hok h0 n m h1 h2
    cases hq : stepI s with
    | none => cases n <;> cases m <;> simp [progN, hq]
    | some x =>
      obtain ⟨e, s'⟩ := x
      have hmu := stepI_mu (fun w hw => (hok.ws w hw).1) hq
      obtain ⟨n, rfl⟩ : ∃ t, n = t + 1 := ⟨n - 1, by omega⟩
      obtain ⟨m, rfl⟩ : ∃ t, m = t + 1 := ⟨m - 1, by omega⟩
      simp only [progN, hq]
      exact ih s' _ (stepI_ok hq hok) (by omega) n m (by omega) (by omega)
theorem prog_none {s : PP} {acc : List EndM} (h : stepI s = none) : prog s acc = (acc, s) := by
  unfold prog
  cases mu s <;> simp [progN, h]
theorem prog_some {s s' : PP} {e : Option EndM} {acc : List EndM} (hok : Ok s) (h : stepI s = some (e, s')) : prog s acc = prog s' (acc ++ e.toList) := by
  have hmu := stepI_mu (fun w hw => (hok.ws w hw).1) h
  unfold prog
  obtain ⟨n, hn⟩ : ∃ t, mu s = t + 1 := ⟨mu s - 1, by omega⟩
  rw [hn]
  simp only [progN, h]
  exact progN_more (stepI_ok h hok) (by omega) (Nat.le_refl _)

theorem endA_nil {B H : AHeap} {As : List Asn} {e : EndM} (hd : e.data = []) (hS : S B H As) : S B H (endA e [.int .i64 e.thread, .slice none 0 0, .int .i64 e.count, .int .i64 e.err] :: As) := by
  refine S.exI (.slice none 0 0) (S.seps ?_)
  rw [hd]
  exact S.slNil (S.pur rfl hS)
theorem endA_of {B H : AHeap} {As : List Asn} {e : EndM} {vd : Value} (hS : S B H (sl 1 vd (u8s e.data) :: As)) : S B H (endA e [.int .i64 e.thread, vd, .int .i64 e.count, .int .i64 e.err] :: As) :=
  S.exI vd (S.seps (S.up1 (S.pur rfl hS)))
theorem wrA_of {B H : AHeap} {As : List Asn} {w : Wr} {vd : Value} (hS : S B H (sl 1 vd (u8s w.data) :: As)) : S B H (wrA w [.int .i64 w.thread, vd, .int .i64 w.done] :: As) :=
  S.exI vd (S.seps (S.up1 (S.pur rfl hS)))
theorem wrA_un {B H : AHeap} {As : List Asn} {w : Wr} {cs : List Value} (hS : S B H (wrA w cs :: As)) : ∃ a c, cs = [.int .i64 w.thread, .slice a w.data.length c, .int .i64 w.done] ∧ w.data.length ≤ c ∧ S B H (sl 1 (.slice a w.data.length c) (u8s w.data) :: As) := by
  obtain ⟨vd, hS⟩ := S.unex hS
  obtain ⟨h1, hS⟩ := S.unpur (S.up1 (S.unseps hS))
  obtain ⟨a, c, rfl⟩ := S.u1 hS
  exact ⟨a, c, h1, S.len_le hS, hS⟩
theorem many_one_of {X : Type} {E : X → List Value → Asn} {es : Nat} {B H : AHeap} (hE : ∀ {x : X} {cs : List Value} {o : List Nat}, (E x cs).f H o → cs.all (·.oneCell') = true) : ∀ {xs : List X} {css : List (List Value)} {As : List Asn}, S B H (many E xs css :: As) → css.flatten.all (·.oneCell') = true
  | [], css, As, h => by rw [h.many_unnil.1]; rfl
  | x :: xs, css, As, h => by
    obtain ⟨cs, css, rfl, h1⟩ := h.many_uncons
    obtain ⟨o, O, k1, _⟩ := h1.inv
    rw [List.flatten_cons, List.all_append, hE k1, many_one_of (es := es) hE h1.drop]
    rfl
theorem wr_one {B H : AHeap} {As : List Asn} {ws : List Wr} {css : List (List Value)} (h : S B H (many wrA ws css :: As)) : css.flatten.all (·.oneCell') = true :=
  many_one_of (es := 3) (fun {x cs o} k => by obtain ⟨a, c, rfl, _⟩ := wrA_at k; rfl) h
end Go.E.Pi
/- The pipe goes on: progress, walked through. -/
namespace Go.E.Pi
open Go Go.E Go.Proofs.Ytgmmkajjigmjoaa Go.Proofs
set_option linter.unusedVariables false
set_option linter.unusedSimpArgs false
set_option maxRecDepth 100000
theorem mu_le {s : PP} (hok : Ok s) : mu s ≤ 300000 := by
  have h1 : wsum s.writers ≤ s.writers.length * 4097 := by
    have : ∀ (l : List Wr), (∀ w ∈ l, w.done < w.data.length ∧ w.data.length ≤ 4096) → wsum l ≤ l.length * 4097 := by
      intro l
      induction l with
      | nil => intro _; simp [wsum]
      | cons w l ih =>
        intro h
        have h1 := ih fun x hx => h x (by simp [hx])
        have h2 := h w (by simp)
        unfold wsum at h1 ⊢
        simp only [List.map_cons, List.sum_cons, List.length_cons]
        omega
    exact this s.writers hok.ws
  have := hok.wl
  have := hok.rl
  unfold mu
  omega

theorem closeAll {B H : AHeap} {As : List Asn} {p rb f : Nat} {s : PP} {r : List Int} {vr vw vo : Value} {css ess : List (List Value)} {acc : List EndM} (hr : RingOk s r f) (hcss : ∀ cs ∈ css, cs.length = 3) (hess : ∀ cs ∈ ess, cs.length = 4)
    (hS : S B H (pto p (.cells (pipeC s rb f vr vw) 0 false) :: pto rb (.cells (u8s r) 1 false) :: sl 2 vr (s.readers.flatMap rdC) :: sl 3 vw css.flatten :: many wrA s.writers css :: sl 4 vo ess.flatten :: many endA acc ess :: As)) : S B H (arr 4 endA vo acc :: repP p s :: As) := by
  have h1 := S.arrI (S.up6 (S.up6 hS)) hess
  have h2 := S.arrI (S.up5 (S.up5 h1)) hcss
  exact S.up1 (closeP hr (S.dn4 (S.dn4 h2)))
theorem L44 {B H : AHeap} {As : List Asn} {p : Nat} {s : PP} (hS : S B H (repP p s :: As)) (hok : Ok s) :
    wpF C 44 [.pointer (some ⟨p, 0, none⟩)] H fun v H' => S B H' (arr 4 endA v (prog s []).1 :: repP p (prog s []).2 :: As) := by
  have hmu := mu_le hok
  generalize hP : prog s [] = P at *
  refine wpF_ofW o44 rfl rfl ?_
  refine zsr ?_; refine zw1 ?_; refine zns ?_; refine zsr ?_; refine zw1 ?_; refine zns ?_; refine wp_seq ?_; refine wp_skip ?_; refine seq_normal ?_; refine wp_block ?_
  refine wp_loop [3] (fun k vs H' => ∃ (si : PP) (acc : List EndM) (vo : Value), vs = [vo] ∧ mu si = k ∧ prog si acc = P ∧ Ok si ∧ acc.length + mu si ≤ 300000 ∧ S B H' (arr 4 endA vo acc :: repP p si :: As))
    ⟨mu s, s, [], .slice none 0 0, rfl, rfl, hP, hok, by simpa using hmu, S.arrNil hS⟩ ?_
  clear hS hok hmu hP s
  rintro k vs T' H1 ⟨s, acc, vo, rfl, hk, hP, hok, hacc, hS⟩
  obtain ⟨rb, vr, vw, r, f, hr, hS⟩ := openP (S.up1 hS)
  obtain ⟨aw, cw, rfl, hcw⟩ := S.arrShape (S.up3 hS) (by omega)
  obtain ⟨ao, co, rfl, hco⟩ := S.arrShape (S.up4 hS) (by omega)
  obtain ⟨ar, cr, rfl, hcr⟩ := shapeR (S.up2 hS)
  obtain ⟨css, hcss, hcl, hS⟩ := S.unarr (S.up3 hS)
  replace hS := S.dn4 (S.dn4 hS)
  obtain ⟨ess, hess, hel, hS⟩ := S.unarr (S.up5 hS)
  replace hS := S.dn6 (S.dn6 hS)
  have hcap := hok.cap
  have hbl := hok.buf
  have hwl := hok.wl
  have hrl := hok.rl
  refine wp_block ?_; refine wp_seq ?_; refine zsr ?_; refine zw1 ?_; refine wpO_cons ?_; refine op1_nilchk rfl rfl ?_; refine wpO_cons ?_; refine op1_faddr0 rfl rfl ?_; refine wpO_cons ?_; refine op1_faddr rfl rfl ?_; refine wpO_cons ?_; refine op1_load rfl rfl (by exact S.g0 hS) rfl ?_; refine wpO_cons ?_; refine op1_len rfl rfl ?_; refine wpO_cons ?_; refine op1_gtr rfl rfl rfl ?_; refine zns ?_
  refine wp_dec rfl (fun hw0 => ?_) (fun hw0 => ?_)
  · rcases hws : s.writers with _ | ⟨w, ws⟩
    · rw [hws] at hw0; simp at hw0
    simp only [hws, List.length_cons] at hS hcl hcw hwl
    simp only [hws, List.length_cons]
    obtain ⟨cs0, css, rfl, hS⟩ := S.many_uncons (S.up4 hS)
    obtain ⟨ad, cd, rfl, hcd, hS⟩ := wrA_un hS
    replace hS := S.dn5 (S.dn5 hS)
    have hone : ([Value.int .i64 w.thread, .slice ad w.data.length cd, .int .i64 w.done] :: css).flatten.all (·.oneCell') = true := by
      rw [List.flatten_cons, List.all_append, wr_one (S.up5 hS)]
      rfl
    have hwo := hok.ws w (by rw [hws]; simp)
    obtain ⟨bw, off, cw3, rfl, hgw, hle, htk, hat⟩ := (S.up3 hS).elt (i := 0) (by omega)
    have hat0 := hat 0 (by omega)
    have hat1 := hat 1 (by omega)
    have hat2 := hat 2 (by omega)
    simp only [Nat.zero_mul, Nat.add_zero, List.flatten_cons, List.cons_append, List.getElem?_cons_zero, List.getElem?_cons_succ] at hat0 hat1 hat2
    have htk3 : (cw3.drop off).take 3 = [.int .i64 w.thread, .slice ad w.data.length cd, .int .i64 w.done] := by simpa using htk
    refine zsr ?_; refine zw1 ?_; refine wpO_cons ?_; refine op1_nilchk rfl rfl ?_; refine wpO_cons ?_; refine op1_faddr0 rfl rfl ?_; refine wpO_cons ?_; refine op1_faddr rfl rfl ?_; refine wpO_cons ?_; refine op1_load rfl rfl (by exact S.g0 hS) rfl ?_; refine wpO_cons ?_; refine op1_iaddr rfl rfl rfl (by omega) (by omega) ?_; refine zw1 ?_; refine zns ?_; refine wp_block ?_; refine zsr ?_; refine zw1 ?_; refine wpO_cons ?_; refine op1_nilchk rfl rfl ?_; refine wpO_cons ?_; refine op1_faddr0 rfl rfl ?_; refine wpO_cons ?_; refine op1_iaddrArr rfl rfl rfl (by omega) (by omega) ?_; refine wpO_cons ?_; refine op1_load rfl rfl (by exact S.g0 hS) rfl ?_; refine wpO_cons ?_; refine op1_eqlI rfl rfl rfl ?_; refine zw1 ?_; refine zns ?_
    refine wp_dec rfl (fun ho0 => ?_) (fun ho0 => ?_)
    · have hst : stepI s = some (some ⟨w.thread, [], w.done, 33⟩, { s with writers := ws }) := by unfold stepI; rw [hws]; simp only [if_pos ho0]
      have hP2 := prog_some (acc := acc) hok hst
      have hmu2 := stepI_mu (fun w hw => (hok.ws w hw).1) hst
      refine wp_seq ?_; refine wp_regionD ?_; refine zd1 ?_; refine zd1 ?_; refine wpD_cons ?_; refine op1_nilchk rfl rfl ?_; refine wpD_cons ?_; refine op1_faddr rfl rfl ?_; refine wpD_cons ?_; refine op1_loadL rfl rfl (S.up3 hS) rfl (by omega) rfl ?_; refine zd1 ?_; refine wpD_cons ?_; refine op1_nilchk rfl rfl ?_; refine wpD_cons ?_; refine op1_faddr rfl rfl ?_; refine wpD_cons ?_; refine op1_loadL rfl rfl (S.up3 hS) rfl (by omega) rfl ?_; refine wpD_cons ?_; refine op1_build rfl ?_; refine bk_one (by (conv => lhs; whnf) <;> rfl) rfl rfl rfl ?_; refine bk_one (by (conv => lhs; whnf) <;> rfl) rfl rfl rfl ?_; refine bk_one (by (conv => lhs; whnf) <;> rfl) rfl rfl rfl ?_; refine bk_nil ?_; refine wpD_cons ?_; refine op1_bsliceS rfl hS ?_; refine bk_agg rfl rfl rfl rfl ?_; refine bk_nil ?_; intro p1 H2 hS; refine wpD_cons ?_; (refine op1_appBS rfl rfl (by (conv => lhs; whnf) <;> rfl) rfl (S.g0 hS) rfl rfl (S.up7 hS) (by omega) ?_; intro a1 c1 H3 hS; replace hS := S.dn7 hS; replace hS := S.drop hS); refine zd1 ?_; refine wpD_nil ?_; refine dk_of ?_ ?_; (iterate 4 refine chk_skip ?_); refine chk_cons 9 rfl rfl rfl ?_ ?_; refine chkFs_cons 2 rfl rfl ?_ ?_; exact chk_loadL rfl (S.up4 (by assumption)) rfl (by omega) rfl rfl; exact chkFs_nil; (iterate 3 refine chk_skip ?_); refine chk_cons 5 rfl rfl rfl ?_ ?_; refine chkFs_cons 2 rfl rfl ?_ ?_; exact chk_loadL rfl (S.up4 (by assumption)) rfl (by omega) rfl rfl; exact chkFs_nil; (iterate 4 refine chk_skip ?_); exact chk_end; refine seq_normal ?_; refine zsr ?_; refine zw1 ?_; refine wpO_cons ?_; refine op1_nilchk rfl rfl ?_; refine wpO_cons ?_; refine op1_faddr0 rfl rfl ?_; refine wpO_cons ?_; refine op1_call1 rfl (by (conv => lhs; whnf) <;> rfl) ?_
      refine wpF_mono (L66 (s := s) (S.up1 (S.up3 hS)) hone (by omega) (by omega)) ?_
      rintro v4 H4 ⟨vw', hS⟩
      replace hS := S.dn3 (S.up1 hS)
      replace hS := S.drop (S.up4 hS)
      have h6 := S.dn6 (S.many_snoc (endA_nil (e := ⟨w.thread, [], w.done, 33⟩) rfl (S.up6 hS)))
      rw [← flatten_snoc (css := ess)] at h6
      have hfin := closeAll (s := { s with writers := ws }) ⟨hr.len, hr.lt, hr.buf, hr.le⟩ (fun c hc => hcss c (by simp [hc])) (fun c hc => by
        simp only [List.mem_append, List.mem_singleton] at hc
        rcases hc with hc | rfl
        · exact hess c hc
        · rfl) h6
      refine zns ?_; refine wp_exit ?_; refine block_other rfl ?_; refine seq_exit ?_; refine block_exit ?_
      exact ⟨mu { s with writers := ws }, by omega, { s with writers := ws }, _, _, rfl, rfl, hP2.symm.trans hP, stepI_ok hst hok, by simp; omega, hfin⟩
    · refine wp_seq ?_
      refine wp_region ?_; refine zw1 ?_; refine zw1 ?_; refine wpO_cons ?_; refine op1_nilchk rfl rfl ?_; refine wpO_cons ?_; refine op1_loadNL rfl rfl (S.up3 hS) rfl rfl (by omega) rfl ?_; refine wpO_cons ?_; refine op1_call2 rfl (by (conv => lhs; whnf) <;> rfl) (by (conv => lhs; whnf) <;> rfl) ?_
      refine wpF_mono (L40 (s := s) hS hcap.2 hbl) ?_
      rintro _ H2 ⟨rfl, hS⟩
      refine zw1 ?_; refine zns ?_
      refine wp_cond rfl (fun hfit => ?_) (fun hfit => ?_)
      · have hdd : RD B (sl 2 (.slice ar s.readers.length cr) (s.readers.flatMap rdC) :: sl 3 (.slice (some ⟨bw, off, none⟩) (ws.length + 1) cw) ([Value.int .i64 w.thread, .slice ad w.data.length cd, .int .i64 w.done] :: css).flatten :: sl 1 (.slice ad w.data.length cd) (u8s w.data) :: many wrA ws css :: sl 4 (.slice ao acc.length co) ess.flatten :: many endA acc ess :: As) 1 (.slice ad w.data.length cd) (u8s w.data) := RD.cons (RD.cons RD.head)
        have hdl : (w.data.drop w.done).length = w.data.length - w.done := by simp
        refine wp_seq ?_; refine wp_regionD ?_; refine zd1 ?_; refine wpD_cons ?_; refine op1_nilchk rfl rfl ?_; refine wpD_cons ?_; refine op1_faddr rfl rfl ?_; refine wpD_cons ?_; refine op1_loadL rfl rfl (S.up3 hS) rfl (by omega) rfl ?_; refine zd1 ?_; refine wpD_cons ?_; refine op1_nilchk rfl rfl ?_; refine wpD_cons ?_; refine op1_faddr0 rfl rfl ?_; refine zd1 ?_; refine wpD_cons ?_; refine op1_nilchk rfl rfl ?_; refine wpD_cons ?_; refine op1_faddr rfl rfl ?_; refine wpD_cons ?_; refine op1_loadL rfl rfl (S.up3 hS) rfl (by omega) rfl ?_; refine zd1 ?_; refine wpD_cons ?_; refine op1_nilchk rfl rfl ?_; refine wpD_cons ?_; refine op1_faddr rfl rfl ?_; refine wpD_cons ?_; refine op1_loadL rfl rfl (S.up3 hS) rfl (by omega) rfl ?_; refine wpD_cons ?_
        refine op1_sliceD rfl rfl hdd hS.drop.drop (bnds_lo (by omega) (by omega) hcd) (by simp only [Int.toNat_natCast]; omega) (Nat.le_refl _) ?_
        simp only [Int.toNat_natCast, Nat.mul_one]
        intro a7 c7 hd7 hck7
        rw [u8s_drop, u8s_take, List.take_of_length_le (by simp only [List.length_drop]; omega)] at hd7
        have hSA := hS.drop.drop
        refine wpD_cons ?_; refine op1_call2 rfl (by (conv => lhs; whnf) <;> rfl) (by (conv => lhs; whnf) <;> rfl) ?_
        refine wpF_mono (L43 (c := s.cap) (f := f) (n := s.buf.length) (rest := [.int .i64 s.atomic, .int .i64 s.o0, .int .i64 s.o1, .slice ar s.readers.length cr, .slice (some ⟨bw, off, none⟩) (ws.length + 1) cw]) hS hd7 hr.len hcap hr.lt hbl (by omega)) ?_
        rw [hdl, ← show putN s w = min (w.data.length - w.done) (s.cap - s.buf.length) from rfl, ← hr.buf]
        rintro _ H3 ⟨rfl, r', hr1, hr2, hS⟩
        have hpl : ((w.data.drop w.done).take (putN s w)).length = putN s w := by
          unfold putN; simp only [List.length_take, List.length_drop]; omega
        have hpn : putN s w ≤ w.data.length - w.done := by unfold putN; omega
        have hpn2 : s.buf.length + putN s w ≤ s.cap := by unfold putN; omega
        have hbl2 : (s.buf ++ (w.data.drop w.done).take (putN s w)).length = s.buf.length + putN s w := by rw [List.length_append, hpl]
        rw [← hbl2] at hS hr2
        have hro : RingOk { s with buf := s.buf ++ (w.data.drop w.done).take (putN s w) } r' f := ⟨hr1, hr.lt, hr2.symm, by show (s.buf ++ _).length ≤ s.cap; rw [hbl2]; exact hpn2⟩
        refine wpD_cons ?_; refine op1_add rfl rfl rfl (by exact wrap_i64 (by omega) (by omega)) ?_; refine wpD_cons ?_; refine op1_nilchk rfl rfl ?_; refine wpD_cons ?_; refine op1_faddr rfl rfl ?_; refine wpD_cons ?_; (refine op1_store1L rfl rfl (by (conv => lhs; whnf) <;> rfl) rfl rfl (S.up3 hS) (by omega) ?_; intro H4 hS; replace hS := S.dn3 hS); refine wpD_nil ?_; refine dk_of ?_ ?_; (iterate 3 refine chk_skip ?_); refine chk_cons 18 rfl rfl rfl ?_ ?_; refine chkFs_cons 5 rfl rfl ?_ ?_; exact chk_loadL rfl (S.up1 (by assumption)) rfl (by omega) rfl rfl; refine chkFs_cons 1 rfl rfl ?_ ?_; exact chk_loadL rfl (S.up3 (by assumption)) rfl (by omega) rfl rfl; exact chkFs_nil; (iterate 6 refine chk_skip ?_); refine chk_cons 11 rfl rfl rfl ?_ ?_; refine chkFs_cons 5 rfl rfl ?_ ?_; exact chk_loadL rfl (S.up1 (by assumption)) rfl (by omega) rfl rfl; exact chkFs_nil; (iterate 3 refine chk_skip ?_); refine chk_cons 7 rfl rfl rfl ?_ ?_; refine chkFs_cons 5 rfl rfl ?_ ?_; exact chk_loadL rfl (S.up1 (by assumption)) rfl (by omega) rfl rfl; exact chkFs_nil; refine chk_cons 6 rfl rfl rfl ?_ ?_; refine chkFs_cons 5 rfl rfl ?_ ?_
        · exact hck7 _ _ hSA rfl
        exact chkFs_nil; (iterate 5 refine chk_skip ?_); exact chk_end; refine seq_normal ?_; refine wp_seq ?_; refine wp_seq ?_; refine wp_regionD ?_; refine zd1 ?_; refine wpD_cons ?_; refine op1_nilchk rfl rfl ?_; refine wpD_cons ?_; refine op1_faddr rfl rfl ?_; refine wpD_cons ?_; refine op1_loadL rfl rfl (S.up3 hS) rfl (by omega) rfl ?_; refine zd1 ?_; refine wpD_cons ?_; refine op1_nilchk rfl rfl ?_; refine wpD_cons ?_; refine op1_faddr rfl rfl ?_; refine wpD_cons ?_; refine op1_loadL rfl rfl (S.up3 hS) rfl (by omega) rfl ?_; refine wpD_cons ?_; refine op1_len rfl rfl ?_; refine wpD_cons ?_; refine op1_eqlI rfl rfl rfl ?_; refine wpD_nil ?_; refine dk_of ?_ ?_; (iterate 3 refine chk_skip ?_); refine chk_cons 7 rfl rfl rfl ?_ ?_; refine chkFs_cons 0 rfl rfl ?_ ?_; exact chk_loadL rfl (S.up3 (by assumption)) rfl (by omega) rfl rfl; exact chkFs_nil; (iterate 3 refine chk_skip ?_); refine chk_cons 3 rfl rfl rfl ?_ ?_; refine chkFs_cons 0 rfl rfl ?_ ?_; exact chk_loadL rfl (S.up3 (by assumption)) rfl (by omega) rfl rfl; exact chkFs_nil; refine chk_cons 2 rfl rfl rfl ?_ ?_; refine chkFs_cons 0 rfl rfl ?_ ?_; exact chk_len rfl rfl; exact chkFs_nil; refine chk_skip ?_; exact chk_end; refine seq_normal ?_
        refine wp_dec rfl (fun hdone => ?_) (fun hdone => ?_)
        · have hst : stepI s = some (some ⟨w.thread, [], (w.done + putN s w : Nat), 0⟩, { s with buf := s.buf ++ (w.data.drop w.done).take (putN s w), writers := ws }) := by
            unfold stepI; rw [hws]; simp only [if_neg ho0, if_pos hfit]; rw [if_pos (by omega)]
          have hP2 := prog_some (acc := acc) hok hst
          have hmu2 := stepI_mu (fun w hw => (hok.ws w hw).1) hst
          refine wp_seq ?_; refine wp_regionD ?_; refine zd1 ?_; refine zd1 ?_; refine wpD_cons ?_; refine op1_nilchk rfl rfl ?_; refine wpD_cons ?_; refine op1_faddr rfl rfl ?_; refine wpD_cons ?_; refine op1_loadL rfl rfl (S.up3 hS) rfl (by omega) rfl ?_; refine zd1 ?_; refine wpD_cons ?_; refine op1_nilchk rfl rfl ?_; refine wpD_cons ?_; refine op1_faddr rfl rfl ?_; refine wpD_cons ?_; refine op1_loadL rfl rfl (S.up3 hS) rfl (by omega) rfl ?_; refine wpD_cons ?_; refine op1_build rfl ?_; refine bk_one (by (conv => lhs; whnf) <;> rfl) rfl rfl rfl ?_; refine bk_one (by (conv => lhs; whnf) <;> rfl) rfl rfl rfl ?_; refine bk_nil ?_; refine wpD_cons ?_; refine op1_bsliceS rfl hS ?_; refine bk_agg rfl rfl rfl rfl ?_; refine bk_nil ?_; intro p1 H5 hS; refine wpD_cons ?_; (refine op1_appBS rfl rfl (by (conv => lhs; whnf) <;> rfl) rfl (S.g0 hS) rfl rfl (S.up7 hS) (by omega) ?_; intro a1 c1 H6 hS; replace hS := S.dn7 hS; replace hS := S.drop hS); refine zd1 ?_; refine wpD_nil ?_; refine dk_of ?_ ?_; (iterate 4 refine chk_skip ?_); refine chk_cons 9 rfl rfl rfl ?_ ?_; refine chkFs_cons 2 rfl rfl ?_ ?_; exact chk_loadL rfl (S.up4 (by assumption)) rfl (by omega) rfl rfl; exact chkFs_nil; (iterate 3 refine chk_skip ?_); refine chk_cons 5 rfl rfl rfl ?_ ?_; refine chkFs_cons 2 rfl rfl ?_ ?_; exact chk_loadL rfl (S.up4 (by assumption)) rfl (by omega) rfl rfl; exact chkFs_nil; (iterate 4 refine chk_skip ?_); exact chk_end; refine seq_normal ?_; refine wp_region ?_; refine zw1 ?_; refine wpO_cons ?_; refine op1_nilchk rfl rfl ?_; refine wpO_cons ?_; refine op1_faddr0 rfl rfl ?_; refine wpO_cons ?_; refine op1_call1 rfl (by (conv => lhs; whnf) <;> rfl) ?_
          refine wpF_mono (L66 (s := { s with buf := s.buf ++ (w.data.drop w.done).take (putN s w) }) (S.up1 (S.up3 hS)) (by
            show ([Value.int .i64 w.thread, .slice ad w.data.length cd, .int .i64 ((w.done : Int) + (putN s w : Int))] ++ css.flatten).all (·.oneCell') = true
            rw [List.all_append, wr_one (S.up5 hS)]
            rfl) (by omega) (by omega)) ?_
          rintro v4 H7 ⟨vw', hS⟩
          replace hS := S.dn3 (S.up1 hS)
          replace hS := S.drop (S.up4 hS)
          have h6 := S.dn6 (S.many_snoc (endA_nil (e := ⟨w.thread, [], (w.done + putN s w : Nat), 0⟩) rfl (S.up6 hS)))
          rw [← flatten_snoc (css := ess)] at h6
          have hfin := closeAll (s := { s with buf := s.buf ++ (w.data.drop w.done).take (putN s w), writers := ws }) ⟨hro.len, hro.lt, hro.buf, hro.le⟩ (fun c hc => hcss c (by simp [hc])) (fun c hc => by
            simp only [List.mem_append, List.mem_singleton] at hc
            rcases hc with hc | rfl
            · exact hess c hc
            · rfl) h6
          refine zns ?_; refine wp_exit ?_; refine block_other rfl ?_; refine seq_exit ?_; refine block_exit ?_
          exact ⟨_, by rw [hk] at hmu2; exact hmu2, _, _, _, rfl, rfl, hP2.symm.trans hP, stepI_ok hst hok, by simp; omega, hfin⟩
        · have hst : stepI s = some (none, { s with buf := s.buf ++ (w.data.drop w.done).take (putN s w), writers := { w with done := w.done + putN s w } :: ws }) := by
            unfold stepI; rw [hws]; simp only [if_neg ho0, if_pos hfit]; rw [if_neg (by omega)]
          have hP2 := prog_some (acc := acc) hok hst
          have hmu2 := stepI_mu (fun w hw => (hok.ws w hw).1) hst
          refine wp_skip ?_; refine seq_normal ?_; refine wp_exit ?_; refine block_other rfl ?_; refine seq_exit ?_; refine block_exit ?_
          have h6 := S.dn4 (S.many_cons (S.up1 (S.up5 (wrA_of (w := { w with done := w.done + putN s w }) (S.up4 hS)))))
          have hfin := closeAll (s := { s with buf := s.buf ++ (w.data.drop w.done).take (putN s w), writers := { w with done := w.done + putN s w } :: ws }) (css := [.int .i64 w.thread, .slice ad w.data.length cd, .int .i64 (w.done + putN s w : Nat)] :: css) ⟨hro.len, hro.lt, hro.buf, hro.le⟩ (fun c hc => by
            simp only [List.mem_cons] at hc
            rcases hc with rfl | hc
            · rfl
            · exact hcss c (by simp [hc])) hess h6
          rw [Option.toList_none, List.append_nil] at hP2
          skip
          exact ⟨_, by rw [hk] at hmu2; exact hmu2, _, _, _, rfl, rfl, hP2.symm.trans hP, stepI_ok hst hok, by omega, hfin⟩
      · have hIR : stepI s = stepR s := by
          conv => lhs; unfold stepI
          rw [hws]; simp only [if_neg ho0]; rw [hfit]; simp
        have h6 := S.dn4 (S.many_cons (S.up1 (S.up5 (wrA_of (w := w) (S.up4 hS)))))
        replace hS := h6
        have hwl1 : s.writers.length = ws.length + 1 := by rw [hws]; rfl
        rw [← hws] at hS
        refine wp_skip ?_; refine block_normal ?_; refine seq_normal ?_; refine wp_seq ?_
        refine wp_cut [125] (fun vs H' => vs = [.bool (decide (0 < s.readers.length ∧ (0 < s.buf.length ∨ s.o1 = 0 ∧ s.writers.length = 0)))] ∧ H2 = H') ?_ ?_
        · refine wp_region ?_; refine zw1 ?_; refine wpO_cons ?_; refine op1_nilchk rfl rfl ?_; refine wpO_cons ?_; refine op1_faddr0 rfl rfl ?_; refine wpO_cons ?_; refine op1_faddr rfl rfl ?_; refine wpO_cons ?_; refine op1_load rfl rfl (by exact S.g0 hS) rfl ?_; refine wpO_cons ?_; refine op1_len rfl rfl ?_; refine wpO_cons ?_; refine op1_gtr rfl rfl rfl ?_; refine zw1 ?_; refine wpO_cons ?_; refine op1_split rfl (fun hc0 => ?_) (fun hc0 => ?_); (focus (refine op1_mov rfl (by (conv => lhs; whnf) <;> rfl) ?_; refine wpO_cons ?_; refine op1_nilchk rfl rfl ?_; refine wpO_cons ?_; refine op1_faddr0 rfl rfl ?_; refine wpO_cons ?_; refine op1_faddr0 rfl rfl ?_; refine wpO_cons ?_; refine op1_load rfl rfl (by exact S.g0 hS) rfl ?_; refine wpO_cons ?_; refine op1_gtr rfl rfl rfl ?_; refine zw1 ?_; refine wpO_cons ?_; refine op1_split rfl (fun hc1 => ?_) (fun hc1 => ?_); (focus (refine op1_skip rfl ?_; refine wpO_cons ?_; refine op1_skip rfl ?_; refine wpO_cons ?_; refine op1_skip rfl ?_; refine wpO_cons ?_; refine op1_skip rfl ?_; refine wpO_cons ?_; refine op1_skip rfl ?_; refine wpO_cons ?_; refine op1_skip rfl ?_; refine wpO_cons ?_; refine op1_skip rfl ?_; refine wpO_cons ?_; refine op1_skip rfl ?_; refine wpO_cons ?_; refine op1_skip rfl ?_; refine wpO_cons ?_; refine op1_skip rfl ?_; refine wpO_cons ?_; refine op1_skip rfl ?_; refine wpO_cons ?_; refine op1_skip rfl ?_; refine wpO_cons ?_; refine op1_skip rfl ?_; refine wpO_cons ?_; refine op1_skip rfl ?_; refine wpO_cons ?_; refine op1_skip rfl ?_; refine wpO_cons ?_; refine op1_pick_t rfl rfl (by (conv => lhs; whnf) <;> rfl) ?_; refine wpO_cons ?_; refine op1_pick_t rfl rfl (by (conv => lhs; whnf) <;> rfl) ?_; refine wpO_nil ?_; refine cut1 (by (conv => lhs; whnf) <;> rfl) ?_; (exact ⟨by simp_all <;> omega, rfl⟩))); (focus (refine op1_mov rfl (by (conv => lhs; whnf) <;> rfl) ?_; refine wpO_cons ?_; refine op1_nilchk rfl rfl ?_; refine wpO_cons ?_; refine op1_faddr0 rfl rfl ?_; refine wpO_cons ?_; refine op1_iaddrArr rfl rfl rfl (by omega) (by omega) ?_; refine wpO_cons ?_; refine op1_load rfl rfl (by exact S.g0 hS) rfl ?_; refine wpO_cons ?_; refine op1_eqlI rfl rfl rfl ?_; refine zw1 ?_; refine wpO_cons ?_; refine op1_split rfl (fun hc2 => ?_) (fun hc2 => ?_); (focus (refine op1_mov rfl (by (conv => lhs; whnf) <;> rfl) ?_; refine wpO_cons ?_; refine op1_nilchk rfl rfl ?_; refine wpO_cons ?_; refine op1_faddr0 rfl rfl ?_; refine wpO_cons ?_; refine op1_faddr rfl rfl ?_; refine wpO_cons ?_; refine op1_load rfl rfl (by exact S.g0 hS) rfl ?_; refine wpO_cons ?_; refine op1_len rfl rfl ?_; refine wpO_cons ?_; refine op1_eqlI rfl rfl rfl ?_; refine wpO_cons ?_; refine op1_pick_t rfl rfl (by (conv => lhs; whnf) <;> rfl) ?_; refine wpO_cons ?_; refine op1_pick_f rfl rfl (by (conv => lhs; whnf) <;> rfl) ?_; refine wpO_cons ?_; refine op1_pick_t rfl rfl (by (conv => lhs; whnf) <;> rfl) ?_; refine wpO_nil ?_; refine cut1 (by (conv => lhs; whnf) <;> rfl) ?_; (exact ⟨by simp_all <;> omega, rfl⟩))); (focus (refine op1_skip rfl ?_; refine wpO_cons ?_; refine op1_skip rfl ?_; refine wpO_cons ?_; refine op1_skip rfl ?_; refine wpO_cons ?_; refine op1_skip rfl ?_; refine wpO_cons ?_; refine op1_skip rfl ?_; refine wpO_cons ?_; refine op1_skip rfl ?_; refine wpO_cons ?_; refine op1_skip rfl ?_; refine wpO_cons ?_; refine op1_pick_f rfl rfl (by (conv => lhs; whnf) <;> rfl) ?_; refine wpO_cons ?_; refine op1_pick_f rfl rfl (by (conv => lhs; whnf) <;> rfl) ?_; refine wpO_cons ?_; refine op1_pick_t rfl rfl (by (conv => lhs; whnf) <;> rfl) ?_; refine wpO_nil ?_; refine cut1 (by (conv => lhs; whnf) <;> rfl) ?_; (exact ⟨by simp_all <;> omega, rfl⟩))))))); (focus (refine op1_skip rfl ?_; refine wpO_cons ?_; refine op1_skip rfl ?_; refine wpO_cons ?_; refine op1_skip rfl ?_; refine wpO_cons ?_; refine op1_skip rfl ?_; refine wpO_cons ?_; refine op1_skip rfl ?_; refine wpO_cons ?_; refine op1_skip rfl ?_; refine wpO_cons ?_; refine op1_skip rfl ?_; refine wpO_cons ?_; refine op1_skip rfl ?_; refine wpO_cons ?_; refine op1_skip rfl ?_; refine wpO_cons ?_; refine op1_skip rfl ?_; refine wpO_cons ?_; refine op1_skip rfl ?_; refine wpO_cons ?_; refine op1_skip rfl ?_; refine wpO_cons ?_; refine op1_skip rfl ?_; refine wpO_cons ?_; refine op1_skip rfl ?_; refine wpO_cons ?_; refine op1_skip rfl ?_; refine wpO_cons ?_; refine op1_skip rfl ?_; refine wpO_cons ?_; refine op1_skip rfl ?_; refine wpO_cons ?_; refine op1_skip rfl ?_; refine wpO_cons ?_; refine op1_skip rfl ?_; refine wpO_cons ?_; refine op1_skip rfl ?_; refine wpO_cons ?_; refine op1_skip rfl ?_; refine wpO_cons ?_; refine op1_skip rfl ?_; refine wpO_cons ?_; refine op1_skip rfl ?_; refine wpO_cons ?_; refine op1_pick_f rfl rfl (by (conv => lhs; whnf) <;> rfl) ?_; refine wpO_nil ?_; refine cut1 (by (conv => lhs; whnf) <;> rfl) ?_; (exact ⟨by simp_all <;> omega, rfl⟩)))
        rintro vs2 T2 H3 ⟨rfl, rfl⟩
        refine wp_dec rfl (fun hgo => ?_) (fun hgo => ?_)
        · rcases hrs : s.readers with _ | ⟨x, rs⟩
          · rw [hrs] at hgo; simp at hgo
          simp only [hrs, List.length_cons] at hS hcr hrl
          simp only [hrs, List.length_cons]
          have hxo := hok.rs x (by rw [hrs]; simp)
          obtain ⟨br, offr, cw4, rfl, _, _, _, _⟩ := (S.up2 hS).elt (i := 0) (by omega)
          have hst : stepI s = some (some ⟨x.1, s.buf.take (min x.2 s.buf.length).toNat, (min x.2 s.buf.length).toNat, 0⟩, { s with buf := s.buf.drop (min x.2 s.buf.length).toNat, readers := rs }) := by
            rw [hIR]; unfold stepR; rw [hrs]; simp only; rw [if_pos hgo.2]
          have hP2 := prog_some (acc := acc) hok hst
          have hmu2 := stepI_mu (fun w hw => (hok.ws w hw).1) hst
          refine zsr ?_; refine zw1 ?_; refine wpO_cons ?_; refine op1_nilchk rfl rfl ?_; refine wpO_cons ?_; refine op1_faddr0 rfl rfl ?_; refine wpO_cons ?_; refine op1_faddr rfl rfl ?_; refine wpO_cons ?_; refine op1_load rfl rfl (by exact S.g0 hS) rfl ?_; refine wpO_cons ?_; refine op1_iaddr rfl rfl rfl (by omega) (by omega) ?_; refine wpO_cons ?_; refine op1_loadNL rfl rfl (S.up2 hS) rfl rfl (by omega) rfl ?_; refine wpO_cons ?_; refine op1_allocS rfl hS ?_; intro p1 H3 hS; refine wpO_cons ?_; (refine op1_storeNS rfl rfl (by (conv => lhs; whnf) <;> rfl) rfl rfl (S.up0 hS) (Nat.le_of_ble_eq_true rfl) ?_; intro H4 hS; replace hS := S.dn0 hS); refine zns ?_; refine zsr ?_; refine zw1 ?_; refine wpO_cons ?_; refine op1_nilchk rfl rfl ?_; refine wpO_cons ?_; refine op1_faddr0 rfl rfl ?_; refine wpO_cons ?_; refine op1_call1 rfl (by (conv => lhs; whnf) <;> rfl) ?_
          refine wpF_mono (L67 (s := s) (S.up2 (S.up3 hS)) (by omega)) ?_
          rintro v4 H8 ⟨vr', hS⟩
          refine zns ?_; refine zsr ?_; refine zw1 ?_; refine zw1 ?_; refine wpO_cons ?_; refine op1_load_2 rfl rfl (by exact S.g2 hS) rfl rfl ?_; refine wpO_cons ?_; refine op1_call2 rfl (by (conv => lhs; whnf) <;> rfl) (by (conv => lhs; whnf) <;> rfl) ?_
          refine wpF_mono (L68 (s := s) (S.up1 (S.up3 hS)) hr hcap (by omega)) ?_
          rintro v5 H9 ⟨vd, f', rfl, hr', hS⟩
          obtain ⟨avd, cvd, rfl⟩ := hS.u1
          refine wpO_cons ?_; refine op1_bsliceS rfl hS ?_; refine bk_agg rfl rfl rfl rfl ?_; refine bk_nil ?_; intro p2 H5 hS; refine wpO_cons ?_; (refine op1_appBS rfl rfl (by (conv => lhs; whnf) <;> rfl) rfl (S.g0 hS) rfl rfl (S.up8 hS) (by omega) ?_; intro a1 c1 H6 hS; replace hS := S.dn8 hS; replace hS := S.drop hS); refine zw1 ?_; refine zns ?_; refine wp_exit ?_; refine seq_exit ?_; refine block_exit ?_
          have h6 := S.drop (S.up3 (S.dn7 (S.many_snoc (S.up1 (S.up8 (endA_of (e := ⟨x.1, s.buf.take (min x.2 s.buf.length).toNat, (min x.2 s.buf.length).toNat, 0⟩) hS))))))
          rw [← flatten_snoc (css := ess)] at h6
          have hfin := closeAll (s := { s with buf := s.buf.drop (min x.2 s.buf.length).toNat, readers := rs }) ⟨hr'.len, hr'.lt, hr'.buf, hr'.le⟩ hcss (fun c hc => by
            simp only [List.mem_append, List.mem_singleton] at hc
            rcases hc with hc | rfl
            · exact hess c hc
            · rfl) h6
          exact ⟨_, by rw [hk] at hmu2; exact hmu2, _, _, _, rfl, rfl, hP2.symm.trans hP, stepI_ok hst hok, by simp; omega, hfin⟩
        · have hst : stepI s = none := by
            rw [hIR]; unfold stepR
            split
            · rfl
            · rename_i x rs hrs
              rw [if_neg fun h => hgo ⟨by rw [hrs]; simp, h⟩]
          have hP2 := prog_none (acc := acc) hst
          have hfin := closeAll (s := s) hr hcss hess hS
          rw [hP2] at hP
          subst hP
          refine wp_skip ?_; refine seq_normal ?_; refine zsr ?_; refine zw1 ?_; refine zw1 ?_; refine zns ?_; refine wp_ret ?_; refine block_ret ?_; refine iter_ret ?_; refine block_ret ?_; refine ret_of ?_; refine rk_tmp (by (conv => lhs; whnf) <;> rfl) ?_; refine rk_nil ?_
          exact hfin
  · have hIR : stepI s = stepR s := by
      have hws : s.writers = [] := List.eq_nil_of_length_eq_zero (by omega)
      conv => lhs; unfold stepI
      rw [hws]
    have hwl1 : s.writers.length = s.writers.length := rfl
    refine wp_skip ?_; refine seq_normal ?_; refine wp_seq ?_
    refine wp_cut [125] (fun vs H' => vs = [.bool (decide (0 < s.readers.length ∧ (0 < s.buf.length ∨ s.o1 = 0 ∧ s.writers.length = 0)))] ∧ H1 = H') ?_ ?_
    · refine wp_region ?_; refine zw1 ?_; refine wpO_cons ?_; refine op1_nilchk rfl rfl ?_; refine wpO_cons ?_; refine op1_faddr0 rfl rfl ?_; refine wpO_cons ?_; refine op1_faddr rfl rfl ?_; refine wpO_cons ?_; refine op1_load rfl rfl (by exact S.g0 hS) rfl ?_; refine wpO_cons ?_; refine op1_len rfl rfl ?_; refine wpO_cons ?_; refine op1_gtr rfl rfl rfl ?_; refine zw1 ?_; refine wpO_cons ?_; refine op1_split rfl (fun hc0 => ?_) (fun hc0 => ?_); (focus (refine op1_mov rfl (by (conv => lhs; whnf) <;> rfl) ?_; refine wpO_cons ?_; refine op1_nilchk rfl rfl ?_; refine wpO_cons ?_; refine op1_faddr0 rfl rfl ?_; refine wpO_cons ?_; refine op1_faddr0 rfl rfl ?_; refine wpO_cons ?_; refine op1_load rfl rfl (by exact S.g0 hS) rfl ?_; refine wpO_cons ?_; refine op1_gtr rfl rfl rfl ?_; refine zw1 ?_; refine wpO_cons ?_; refine op1_split rfl (fun hc1 => ?_) (fun hc1 => ?_); (focus (refine op1_skip rfl ?_; refine wpO_cons ?_; refine op1_skip rfl ?_; refine wpO_cons ?_; refine op1_skip rfl ?_; refine wpO_cons ?_; refine op1_skip rfl ?_; refine wpO_cons ?_; refine op1_skip rfl ?_; refine wpO_cons ?_; refine op1_skip rfl ?_; refine wpO_cons ?_; refine op1_skip rfl ?_; refine wpO_cons ?_; refine op1_skip rfl ?_; refine wpO_cons ?_; refine op1_skip rfl ?_; refine wpO_cons ?_; refine op1_skip rfl ?_; refine wpO_cons ?_; refine op1_skip rfl ?_; refine wpO_cons ?_; refine op1_skip rfl ?_; refine wpO_cons ?_; refine op1_skip rfl ?_; refine wpO_cons ?_; refine op1_skip rfl ?_; refine wpO_cons ?_; refine op1_skip rfl ?_; refine wpO_cons ?_; refine op1_pick_t rfl rfl (by (conv => lhs; whnf) <;> rfl) ?_; refine wpO_cons ?_; refine op1_pick_t rfl rfl (by (conv => lhs; whnf) <;> rfl) ?_; refine wpO_nil ?_; refine cut1 (by (conv => lhs; whnf) <;> rfl) ?_; (exact ⟨by simp_all <;> omega, rfl⟩))); (focus (refine op1_mov rfl (by (conv => lhs; whnf) <;> rfl) ?_; refine wpO_cons ?_; refine op1_nilchk rfl rfl ?_; refine wpO_cons ?_; refine op1_faddr0 rfl rfl ?_; refine wpO_cons ?_; refine op1_iaddrArr rfl rfl rfl (by omega) (by omega) ?_; refine wpO_cons ?_; refine op1_load rfl rfl (by exact S.g0 hS) rfl ?_; refine wpO_cons ?_; refine op1_eqlI rfl rfl rfl ?_; refine zw1 ?_; refine wpO_cons ?_; refine op1_split rfl (fun hc2 => ?_) (fun hc2 => ?_); (focus (refine op1_mov rfl (by (conv => lhs; whnf) <;> rfl) ?_; refine wpO_cons ?_; refine op1_nilchk rfl rfl ?_; refine wpO_cons ?_; refine op1_faddr0 rfl rfl ?_; refine wpO_cons ?_; refine op1_faddr rfl rfl ?_; refine wpO_cons ?_; refine op1_load rfl rfl (by exact S.g0 hS) rfl ?_; refine wpO_cons ?_; refine op1_len rfl rfl ?_; refine wpO_cons ?_; refine op1_eqlI rfl rfl rfl ?_; refine wpO_cons ?_; refine op1_pick_t rfl rfl (by (conv => lhs; whnf) <;> rfl) ?_; refine wpO_cons ?_; refine op1_pick_f rfl rfl (by (conv => lhs; whnf) <;> rfl) ?_; refine wpO_cons ?_; refine op1_pick_t rfl rfl (by (conv => lhs; whnf) <;> rfl) ?_; refine wpO_nil ?_; refine cut1 (by (conv => lhs; whnf) <;> rfl) ?_; (exact ⟨by simp_all <;> omega, rfl⟩))); (focus (refine op1_skip rfl ?_; refine wpO_cons ?_; refine op1_skip rfl ?_; refine wpO_cons ?_; refine op1_skip rfl ?_; refine wpO_cons ?_; refine op1_skip rfl ?_; refine wpO_cons ?_; refine op1_skip rfl ?_; refine wpO_cons ?_; refine op1_skip rfl ?_; refine wpO_cons ?_; refine op1_skip rfl ?_; refine wpO_cons ?_; refine op1_pick_f rfl rfl (by (conv => lhs; whnf) <;> rfl) ?_; refine wpO_cons ?_; refine op1_pick_f rfl rfl (by (conv => lhs; whnf) <;> rfl) ?_; refine wpO_cons ?_; refine op1_pick_t rfl rfl (by (conv => lhs; whnf) <;> rfl) ?_; refine wpO_nil ?_; refine cut1 (by (conv => lhs; whnf) <;> rfl) ?_; (exact ⟨by simp_all <;> omega, rfl⟩))))))); (focus (refine op1_skip rfl ?_; refine wpO_cons ?_; refine op1_skip rfl ?_; refine wpO_cons ?_; refine op1_skip rfl ?_; refine wpO_cons ?_; refine op1_skip rfl ?_; refine wpO_cons ?_; refine op1_skip rfl ?_; refine wpO_cons ?_; refine op1_skip rfl ?_; refine wpO_cons ?_; refine op1_skip rfl ?_; refine wpO_cons ?_; refine op1_skip rfl ?_; refine wpO_cons ?_; refine op1_skip rfl ?_; refine wpO_cons ?_; refine op1_skip rfl ?_; refine wpO_cons ?_; refine op1_skip rfl ?_; refine wpO_cons ?_; refine op1_skip rfl ?_; refine wpO_cons ?_; refine op1_skip rfl ?_; refine wpO_cons ?_; refine op1_skip rfl ?_; refine wpO_cons ?_; refine op1_skip rfl ?_; refine wpO_cons ?_; refine op1_skip rfl ?_; refine wpO_cons ?_; refine op1_skip rfl ?_; refine wpO_cons ?_; refine op1_skip rfl ?_; refine wpO_cons ?_; refine op1_skip rfl ?_; refine wpO_cons ?_; refine op1_skip rfl ?_; refine wpO_cons ?_; refine op1_skip rfl ?_; refine wpO_cons ?_; refine op1_skip rfl ?_; refine wpO_cons ?_; refine op1_skip rfl ?_; refine wpO_cons ?_; refine op1_pick_f rfl rfl (by (conv => lhs; whnf) <;> rfl) ?_; refine wpO_nil ?_; refine cut1 (by (conv => lhs; whnf) <;> rfl) ?_; (exact ⟨by simp_all <;> omega, rfl⟩)))
    rintro vs2 T2 H3 ⟨rfl, rfl⟩
    refine wp_dec rfl (fun hgo => ?_) (fun hgo => ?_)
    · rcases hrs : s.readers with _ | ⟨x, rs⟩
      · rw [hrs] at hgo; simp at hgo
      simp only [hrs, List.length_cons] at hS hcr hrl
      simp only [hrs, List.length_cons]
      have hxo := hok.rs x (by rw [hrs]; simp)
      obtain ⟨br, offr, cw4, rfl, _, _, _, _⟩ := (S.up2 hS).elt (i := 0) (by omega)
      have hst : stepI s = some (some ⟨x.1, s.buf.take (min x.2 s.buf.length).toNat, (min x.2 s.buf.length).toNat, 0⟩, { s with buf := s.buf.drop (min x.2 s.buf.length).toNat, readers := rs }) := by
        rw [hIR]; unfold stepR; rw [hrs]; simp only; rw [if_pos hgo.2]
      have hP2 := prog_some (acc := acc) hok hst
      have hmu2 := stepI_mu (fun w hw => (hok.ws w hw).1) hst
      refine zsr ?_; refine zw1 ?_; refine wpO_cons ?_; refine op1_nilchk rfl rfl ?_; refine wpO_cons ?_; refine op1_faddr0 rfl rfl ?_; refine wpO_cons ?_; refine op1_faddr rfl rfl ?_; refine wpO_cons ?_; refine op1_load rfl rfl (by exact S.g0 hS) rfl ?_; refine wpO_cons ?_; refine op1_iaddr rfl rfl rfl (by omega) (by omega) ?_; refine wpO_cons ?_; refine op1_loadNL rfl rfl (S.up2 hS) rfl rfl (by omega) rfl ?_; refine wpO_cons ?_; refine op1_allocS rfl hS ?_; intro p1 H2 hS; refine wpO_cons ?_; (refine op1_storeNS rfl rfl (by (conv => lhs; whnf) <;> rfl) rfl rfl (S.up0 hS) (Nat.le_of_ble_eq_true rfl) ?_; intro H3 hS; replace hS := S.dn0 hS); refine zns ?_; refine zsr ?_; refine zw1 ?_; refine wpO_cons ?_; refine op1_nilchk rfl rfl ?_; refine wpO_cons ?_; refine op1_faddr0 rfl rfl ?_; refine wpO_cons ?_; refine op1_call1 rfl (by (conv => lhs; whnf) <;> rfl) ?_
      refine wpF_mono (L67 (s := s) (S.up2 (S.up3 hS)) (by omega)) ?_
      rintro v4 H8 ⟨vr', hS⟩
      refine zns ?_; refine zsr ?_; refine zw1 ?_; refine zw1 ?_; refine wpO_cons ?_; refine op1_load_2 rfl rfl (by exact S.g2 hS) rfl rfl ?_; refine wpO_cons ?_; refine op1_call2 rfl (by (conv => lhs; whnf) <;> rfl) (by (conv => lhs; whnf) <;> rfl) ?_
      refine wpF_mono (L68 (s := s) (S.up1 (S.up3 hS)) hr hcap (by omega)) ?_
      rintro v5 H9 ⟨vd, f', rfl, hr', hS⟩
      obtain ⟨avd, cvd, rfl⟩ := hS.u1
      refine wpO_cons ?_; refine op1_bsliceS rfl hS ?_; refine bk_agg rfl rfl rfl rfl ?_; refine bk_nil ?_; intro p2 H4 hS; refine wpO_cons ?_; (refine op1_appBS rfl rfl (by (conv => lhs; whnf) <;> rfl) rfl (S.g0 hS) rfl rfl (S.up8 hS) (by omega) ?_; intro a1 c1 H5 hS; replace hS := S.dn8 hS; replace hS := S.drop hS); refine zw1 ?_; refine zns ?_; refine wp_exit ?_; refine seq_exit ?_; refine block_exit ?_
      have h6 := S.drop (S.up3 (S.dn7 (S.many_snoc (S.up1 (S.up8 (endA_of (e := ⟨x.1, s.buf.take (min x.2 s.buf.length).toNat, (min x.2 s.buf.length).toNat, 0⟩) hS))))))
      rw [← flatten_snoc (css := ess)] at h6
      have hfin := closeAll (s := { s with buf := s.buf.drop (min x.2 s.buf.length).toNat, readers := rs }) ⟨hr'.len, hr'.lt, hr'.buf, hr'.le⟩ hcss (fun c hc => by
        simp only [List.mem_append, List.mem_singleton] at hc
        rcases hc with hc | rfl
        · exact hess c hc
        · rfl) h6
      exact ⟨_, by rw [hk] at hmu2; exact hmu2, _, _, _, rfl, rfl, hP2.symm.trans hP, stepI_ok hst hok, by simp; omega, hfin⟩
    · have hst : stepI s = none := by
        rw [hIR]; unfold stepR
        split
        · rfl
        · rename_i x rs hrs
          rw [if_neg fun h => hgo ⟨by rw [hrs]; simp, h⟩]
      have hP2 := prog_none (acc := acc) hst
      have hfin := closeAll (s := s) hr hcss hess hS
      rw [hP2] at hP
      subst hP
      refine wp_skip ?_; refine seq_normal ?_; refine zsr ?_; refine zw1 ?_; refine zw1 ?_; refine zns ?_; refine wp_ret ?_; refine block_ret ?_; refine iter_ret ?_; refine block_ret ?_; refine ret_of ?_; refine rk_tmp (by (conv => lhs; whnf) <;> rfl) ?_; refine rk_nil ?_
      exact hfin
end Go.E.Pi
