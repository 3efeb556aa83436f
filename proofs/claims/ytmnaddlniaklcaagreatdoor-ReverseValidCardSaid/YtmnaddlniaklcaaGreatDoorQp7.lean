/- A quick interpreter for the kernel: proofs, seventh part: regions that draw their order, whole. -/
import Derived.Test.YtmnaddlniaklcaaGreatDoorQp6
namespace Go.Proofs.YtmnaddlniaklcaaGreatDoor.Ev
open Go
set_option linter.unusedSimpArgs false

theorem bitQ_eq (a j : Nat) : bitQ a j = a.testBit j := by
  unfold bitQ Nat.testBit
  have e : Nat.land 1 (Nat.shiftRight a j) = 1 &&& (a >>> j) := rfl
  rw [e]
  cases h : Nat.beq (1 &&& (a >>> j)) 0 with
  | true => have := Nat.eq_of_beq_eq_true h; simp [this]
  | false =>
    have : (1 &&& (a >>> j)) ≠ 0 := fun e2 => by rw [e2] at h; cases h
    simpa using this
theorem bitA_eq (A : List Nat) (i j : Nat) : bitA A i j = bitQ (A.getD i 0) j := by rw [bitQ_eq]; rfl

theorem disj_nil : ∀ l, disj l [] = true
  | [] => rfl
  | b :: l => by simp [disj, elemN, disj_nil l]

/-! ### Which steps are held -/
structure Cov (rs ms : List Sp) (ls : List See) : Prop where
  fm : ms = rs.filter (fun r => !quietS r)
  see : ∀ r ∈ rs, quietS r = true → r.see = [] ∨ (r.idx, r.see) ∈ ls

theorem quietS_ok {s : Sp} (h : quietS s = true) : s.mods = [] ∧ s.big = false := by
  unfold quietS at h
  split at h
  · rename_i h1 h2; exact ⟨h1, h2⟩
  · cases h

theorem freeMods_cov {A : List Nat} {i : Nat} : ∀ {rs : List Sp}, freeMods A i rs = freeMods A i (rs.filter (fun r => !quietS r))
  | [] => rfl
  | r :: l => by
    simp only [freeMods, List.filter_cons]
    cases hq : quietS r with
    | true =>
      simp only [Bool.not_true, Bool.false_eq_true, if_false]
      rw [(quietS_ok hq).1, freeMods_cov (rs := l)]
      cases bitA A i r.idx <;> rfl
    | false =>
      simp only [Bool.not_false, if_true, freeMods]
      rw [freeMods_cov (rs := l)]

theorem chkS_ok {a : Nat} {see : List Nat} : ∀ {l : List Sp}, chkS a see l = true → ∀ m ∈ l, (bitQ a m.idx || seeOk m see) = true
  | [], _, m, hm => by cases hm
  | x :: l, h, m, hm => by
    simp only [chkS] at h
    split at h
    · rename_i hx
      rcases List.mem_cons.1 hm with rfl | hm
      · exact hx
      · exact chkS_ok h m hm
    · cases h
theorem chkM_ok {a : Nat} {s : Sp} : ∀ {l : List Sp}, chkM a s l = true → ∀ m ∈ l, (bitQ a m.idx || pairB m s) = true
  | [], _, m, hm => by cases hm
  | x :: l, h, m, hm => by
    simp only [chkM] at h
    split at h
    · rename_i hx
      rcases List.mem_cons.1 hm with rfl | hm
      · exact hx
      · exact chkM_ok h m hm
    · cases h
theorem chkL_ok {a : Nat} {s : Sp} : ∀ {l : List See}, chkL a s l = true → ∀ e ∈ l, (bitQ a e.1 || seeOk s e.2) = true
  | [], _, m, hm => by cases hm
  | x :: l, h, m, hm => by
    simp only [chkL] at h
    split at h
    · rename_i hx
      rcases List.mem_cons.1 hm with rfl | hm
      · exact hx
      · exact chkL_ok h m hm
    · cases h

/-- A step that changes nothing, against one that it may meet. -/
theorem pair_quiet {r s : Sp} (hs : quietS s = true) (h : quietS r = true ∨ s.see = [] ∨ seeOk r s.see = true) : pairB r s = true := by
  obtain ⟨h1, h2⟩ := quietS_ok hs
  unfold pairB
  rw [h2, h1]
  cases hb : r.big with
  | false =>
    simp only [disj, Bool.and_true]
    rcases h with h | h | h
    · rw [(quietS_ok h).1]; rfl
    · rw [h]; exact disj_nil _
    · unfold seeOk at h; rw [hb] at h; exact h
  | true =>
    simp only [noneAt, Bool.true_and]
    rcases h with h | h | h
    · rw [(quietS_ok h).2] at hb; cases hb
    · rw [h]; rfl
    · unfold seeOk at h; rw [hb] at h; exact h
theorem pair_loud {r s : Sp} (hr : quietS r = true) (h : r.see = [] ∨ seeOk s r.see = true) : pairB r s = true := by
  obtain ⟨h1, h2⟩ := quietS_ok hr
  unfold pairB
  rw [h2, h1]
  cases hb : s.big with
  | false =>
    simp only [disj, Bool.true_and]
    rcases h with h | h
    · rw [h]; exact disj_nil _
    · unfold seeOk at h; rw [hb] at h; exact h
  | true =>
    simp only [noneAt, Bool.true_and]
    rcases h with h | h
    · rw [h]; rfl
    · unfold seeOk at h; rw [hb] at h; exact h

theorem evD1_idx {F : Fns} {P : Program} {A : List Nat} {i : Nat} {rs : List Sp} {o : Oper} {tm : Tr V} {H : Tr AObj} {nx : Nat} {v : V} {s : Sp} (h : evD1 F P A i rs o tm H nx = some (v, s)) : s.idx = i := by
  unfold evD1 at h
  split at h
  · split at h
    · split at h
      · cases h; rfl
      · cases h
    · cases h
  · split at h
    · cases h; rfl
    · split at h
      · cases h; rfl
      · cases h

theorem putA_some {nt : Nat} {tm : Tr V} {d : Option Tmp} {v : V} (h : dstLt nt d = true) : ∃ tm', putA nt tm d v = some tm' ∧ ∀ (f : Fm) (fv : FV), (∀ t, tm.get t = f.tr.get t) → fv.toV = some v → ∀ t, tm'.get t = (f.setO d fv).tr.get t := by
  cases d with
  | none => exact ⟨tm, rfl, fun f fv e _ t => e t⟩
  | some d =>
    have h : Nat.blt d nt = true := h
    refine ⟨tm.put (some v) d, by simp only [putA, h], fun f fv e hv t => ?_⟩
    rw [Tr.get_put, Fm.get_tr]
    simp only [Fm.setO, Fm.val_set]
    by_cases ht : t = d
    · rw [if_pos ht, if_pos ht, hv]
    · rw [if_neg ht, if_neg ht, e, Fm.get_tr]

theorem qDs_ok {Q : QF} {P : Program} {ops : Array Oper} {nt : Nat} {A : List Nat} : ∀ (l : List Oper) (i : Nat) (rs ms : List Sp) (ls : List See) (f : Fm) (tm : Tr V) (H : Tr AObj) (nx : Nat) (f' : Fm) (H' : Tr AObj) (nx' : Nat),
    (∀ t, tm.get t = f.tr.get t) → Cov rs ms ls → qDs (gdsD P ops A i l) Q P ops A i ms ls f H nx = .ok f' H' nx' → dstsLt nt l = true →
    ∃ tm' ss, evD Q.f P ops nt A i l rs tm H nx = some (tm', H', nx', ss) ∧ (∀ t, tm'.get t = f'.tr.get t) ∧ chkAll A ss = true ∧ ∀ r ∈ rs, pairsB A r ss = true := by
  intro l
  induction l with
  | nil =>
    intro i rs ms ls f tm H nx f' H' nx' htm hcov he _
    have he : RR.ok f H nx = .ok f' H' nx' := he
    cases he
    exact ⟨tm, [], rfl, htm, rfl, fun _ _ => rfl⟩
  | cons o l ih =>
    intro i rs ms ls f tm H nx f' H' nx' htm hcov he hlt
    have he : runD (gdD P ops o) Q P ops A (A.getD i 0) i ms ls f H nx (qDs (gdsD P ops A (i + 1) l) Q P ops A (i + 1)) = .ok f' H' nx' := he
    have hdst : dstLt nt o.dst = true := by
      simp only [dstsLt] at hlt
      split at hlt
      · assumption
      · cases hlt
    have hlt' : dstsLt nt l = true := by
      simp only [dstsLt] at hlt
      split at hlt
      · exact hlt
      · cases hlt
    have hre : restrT tm (o.looksAt ops) = restrT f.tr (o.looksAt ops) := restrT_congr htm _
    -- the operation is done
    have done : evGuard ops o f.tr = some true → DDone Q P ops A (A.getD i 0) i ms ls o f H nx (qDs (gdsD P ops A (i + 1) l) Q P ops A (i + 1)) (.ok f' H' nx') →
        ∃ tm' ss, evD Q.f P ops nt A i (o :: l) rs tm H nx = some (tm', H', nx', ss) ∧ (∀ t, tm'.get t = f'.tr.get t) ∧ chkAll A ss = true ∧ ∀ r ∈ rs, pairsB A r ss = true := by
      rintro hg ⟨v, s, fv, hall, hv, hr⟩
      have hd1 := hall rs (by rw [hcov.fm]; exact freeMods_cov)
      have hidx := evD1_idx hd1
      obtain ⟨tm1, hput, hget⟩ := putA_some (tm := tm) (v := v) hdst
      have hget1 := hget f fv htm hv
      have key : ∀ ms' ls', Cov (s :: rs) ms' ls' → qDs (gdsD P ops A (i + 1) l) Q P ops A (i + 1) ms' ls' (f.setO o.dst fv) s.H' s.nx' = .ok f' H' nx' → (∀ r ∈ rs, (bitA A s.idx r.idx || pairB r s) = true) →
          ∃ tm' ss, evD Q.f P ops nt A i (o :: l) rs tm H nx = some (tm', H', nx', ss) ∧ (∀ t, tm'.get t = f'.tr.get t) ∧ chkAll A ss = true ∧ ∀ r ∈ rs, pairsB A r ss = true := by
        intro ms' ls' hc hq hp
        obtain ⟨tm2, ss, h1, h2, h3, h4⟩ := ih (i + 1) (s :: rs) ms' ls' _ tm1 _ _ _ _ _ hget1 hc hq hlt'
        refine ⟨tm2, s :: ss, ?_, h2, ?_, fun r hr => ?_⟩
        · simp only [evD]
          rw [hre, evGuard_restr, hg]
          simp only [hd1, hput, h1]
        · simp only [chkAll, h4 s List.mem_cons_self, h3]
        · simp only [pairsB, hp r hr, h4 r (List.mem_cons_of_mem _ hr)]
      rcases hr with ⟨hq, hsee, hr⟩ | ⟨hq, hch, hr⟩ | ⟨hq, hm, hl, hr⟩
      · refine key ms ls ⟨?_, fun r hr' hqr => ?_⟩ hr.symm (fun r hr' => ?_)
        · rw [List.filter_cons, hq]; simpa using hcov.fm
        · rcases List.mem_cons.1 hr' with rfl | hr'
          · exact .inl hsee
          · exact hcov.see r hr' hqr
        · rw [pair_quiet hq (.inr (.inl hsee)), Bool.or_true]
      · refine key ms ((i, s.see) :: ls) ⟨?_, fun r hr' hqr => ?_⟩ hr.symm (fun r hr' => ?_)
        · rw [List.filter_cons, hq]; simpa using hcov.fm
        · rcases List.mem_cons.1 hr' with rfl | hr'
          · exact .inr (by rw [hidx]; exact List.mem_cons_self)
          · rcases hcov.see r hr' hqr with h | h
            · exact .inl h
            · exact .inr (List.mem_cons_of_mem _ h)
        · cases hqr : quietS r with
          | true => rw [pair_quiet hq (.inl hqr), Bool.or_true]
          | false =>
            have hm : r ∈ ms := by rw [hcov.fm]; exact List.mem_filter.2 ⟨hr', by simp [hqr]⟩
            have := chkS_ok hch r hm
            rw [hidx, bitA_eq]
            cases hb : bitQ (A.getD i 0) r.idx with
            | true => rfl
            | false => rw [hb, Bool.false_or] at this; rw [pair_quiet hq (.inr (.inr this))]; rfl
      · refine key (s :: ms) ls ⟨?_, fun r hr' hqr => ?_⟩ hr.symm (fun r hr' => ?_)
        · rw [List.filter_cons, hq]; simp; exact hcov.fm
        · rcases List.mem_cons.1 hr' with rfl | hr'
          · rw [hq] at hqr; cases hqr
          · exact hcov.see r hr' hqr
        · rw [hidx, bitA_eq]
          cases hb : bitQ (A.getD i 0) r.idx with
          | true => rfl
          | false =>
            cases hqr : quietS r with
            | true =>
              rcases hcov.see r hr' hqr with h | h
              · rw [pair_loud hqr (.inl h)]; rfl
              · have := chkL_ok hl _ h
                simp only at this
                rw [hb, Bool.false_or] at this
                rw [pair_loud hqr (.inr this)]; rfl
            | false =>
              have hm' : r ∈ ms := by rw [hcov.fm]; exact List.mem_filter.2 ⟨hr', by simp [hqr]⟩
              have := chkM_ok hm r hm'
              rw [hb] at this; exact this
    -- the guard is false
    have skip : evGuard ops o f.tr = some false → qDs (gdsD P ops A (i + 1) l) Q P ops A (i + 1) ms ls (f.setO o.dst (.v V.undef)) H nx = .ok f' H' nx' →
        ∃ tm' ss, evD Q.f P ops nt A i (o :: l) rs tm H nx = some (tm', H', nx', ss) ∧ (∀ t, tm'.get t = f'.tr.get t) ∧ chkAll A ss = true ∧ ∀ r ∈ rs, pairsB A r ss = true := by
      intro hg hq
      obtain ⟨tm1, hput, hget⟩ := putA_some (tm := tm) (v := V.undef) hdst
      have hget1 := hget f (.v V.undef) htm rfl
      have hc : Cov (⟨i, restrT f.tr (o.looksAt ops), V.undef, H, nx, H, nx, .nil, .nil, [], [], false⟩ :: rs) ms ls := by
        refine ⟨?_, fun r hr' hqr => ?_⟩
        · rw [List.filter_cons]; simpa [quietS] using hcov.fm
        · rcases List.mem_cons.1 hr' with rfl | hr'
          · exact .inl rfl
          · exact hcov.see r hr' hqr
      obtain ⟨tm2, ss, h1, h2, h3, h4⟩ := ih (i + 1) _ ms ls _ tm1 _ _ _ _ _ hget1 hc hq hlt'
      refine ⟨tm2, ⟨i, restrT f.tr (o.looksAt ops), V.undef, H, nx, H, nx, .nil, .nil, [], [], false⟩ :: ss, ?_, h2, ?_, fun r hr => ?_⟩
      · simp only [evD]
        rw [hre, evGuard_restr, hg]
        simp only [hput, h1]
      · simp only [chkAll, h4 _ List.mem_cons_self, h3]
      · simp only [pairsB, pair_quiet (r := r) (s := ⟨i, restrT f.tr (o.looksAt ops), V.undef, H, nx, H, nx, .nil, .nil, [], [], false⟩) rfl (.inr (.inl rfl)), Bool.or_true, h4 r (List.mem_cons_of_mem _ hr)]
    have plain : evGuard ops o f.tr = some true → runD (cl P o) Q P ops A (A.getD i 0) i ms ls f H nx (qDs (gdsD P ops A (i + 1) l) Q P ops A (i + 1)) = .ok f' H' nx' →
        ∃ tm' ss, evD Q.f P ops nt A i (o :: l) rs tm H nx = some (tm', H', nx', ss) ∧ (∀ t, tm'.get t = f'.tr.get t) ∧ chkAll A ss = true ∧ ∀ r ∈ rs, pairsB A r ss = true := by
      intro hg hr
      rcases runD_step (Q := Q) (P := P) ops A (A.getD i 0) i ms ls o f H nx (qDs (gdsD P ops A (i + 1) l) Q P ops A (i + 1)) with h | h
      · rw [hr] at h; exact done hg h
      · rw [hr] at h; cases h
    unfold gdD at he
    split at he
    · rename_i hg
      exact plain (by simp [evGuard, hg]) he
    · rename_i j want hg
      split at he
      · rename_i oj hj
        split at he
        · rename_i d hd
          have he : gdK ((opdT d).get f) want (runD (cl P o) Q P ops A (A.getD i 0) i ms ls f H nx (qDs (gdsD P ops A (i + 1) l) Q P ops A (i + 1))) (skipQ (dstOf o.dst) f H nx (qDs (gdsD P ops A (i + 1) l) Q P ops A (i + 1) ms ls)) = .ok f' H' nx' := he
          have hu : ((opdT d).get f).toV = f.tr.get d := (Fm.get_tr f d).symm
          have hskip : skipQ (dstOf o.dst) f H nx (qDs (gdsD P ops A (i + 1) l) Q P ops A (i + 1) ms ls) = qDs (gdsD P ops A (i + 1) l) Q P ops A (i + 1) ms ls (f.setO o.dst (.v V.undef)) H nx := putK_eq o.dst (.v V.undef) f (fun fr' => qDs (gdsD P ops A (i + 1) l) Q P ops A (i + 1) ms ls fr' H nx)
          rw [hskip] at he
          have hgd : ∀ r, (match f.tr.get d with | some (.c false [.bool b]) => some (b == want) | some (.tup _) => some false | _ => none) = some r → evGuard ops o f.tr = some r := by
            intro r hr
            simp only [evGuard, hg, hj, hd]; exact hr
          generalize (opdT d).get f = u at hu he
          cases u <;> try (cases he; done)
          · rename_i x
            simp only [FV.toV] at hu
            rw [← hu] at hgd
            cases x <;> cases want
            · exact plain (hgd true rfl) he
            · exact skip (hgd false rfl) he
            · exact skip (hgd false rfl) he
            · exact plain (hgd true rfl) he
          · rename_i x
            simp only [FV.toV] at hu
            rw [← hu] at hgd
            cases x with
            | c g l => cases he
            | tup l => exact skip (hgd false rfl) he
        · cases he
      · cases he

theorem qDraw_ok {Q : QF} {P : Program} {ops : Array Oper} {nt : Nat} {f : Fm} {H : Tr AObj} {nx : Nat} {f' : Fm} {H' : Tr AObj} {nx' : Nat} (he : qDraw Q P ops f H nx = .ok f' H' nx') (hlt : dstsLt nt ops.toList = true) :
    ∃ tm', evDraw Q.f P ops nt f.tr H nx = some (tm', H', nx') ∧ ∀ t, tm'.get t = f'.tr.get t := by
  unfold qDraw at he
  cases hd : drawOk ops with
  | false => rw [hd] at he; cases he
  | true =>
    rw [hd] at he
    obtain ⟨tm', ss, h1, h2, h3, _⟩ := qDs_ok (nt := nt) ops.toList 0 [] [] [] f f.tr H nx f' H' nx' (fun _ => rfl) ⟨rfl, fun _ h => by cases h⟩ he hlt
    refine ⟨tm', ?_, h2⟩
    unfold drawOk at hd
    simp only [evDraw, hd, h1, h3]

end Go.Proofs.YtmnaddlniaklcaaGreatDoor.Ev
