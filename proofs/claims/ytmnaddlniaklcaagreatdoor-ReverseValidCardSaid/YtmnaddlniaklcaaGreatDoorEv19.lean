/- An abstract interpreter of the model's code, nineteenth part: a region that draws its order, whatever it draws. -/
import Derived.Test.YtmnaddlniaklcaaGreatDoorEv18
namespace Go.Proofs.YtmnaddlniaklcaaGreatDoor.Ev
open Go

theorem edges1_ok {i : Nat} : ∀ {l : List Edge}, edges1 i l = true → ∀ e ∈ l, Region.binds .any e = true → e.on < i
  | [], _, e, he, _ => by cases he
  | x :: l, h, e, he, hb => by
    simp only [edges1] at h
    split at h
    · rename_i hx
      rcases List.mem_cons.1 he with rfl | he
      · rw [hb] at hx; simp at hx; exact hx
      · exact edges1_ok h e he hb
    · cases h
theorem edgesOk_ok : ∀ {l : List Oper} {i : Nat}, edgesOk i l = true → ∀ k o, l[k]? = some o → ∀ e ∈ o.after, Region.binds .any e = true → e.on < i + k
  | [], _, _, k, o, hk, _, _, _ => by simp at hk
  | x :: l, i, h, k, o, hk, e, he, hb => by
    simp only [edgesOk] at h
    split at h
    · rename_i hx
      cases k with
      | zero => simp at hk; subst hk; exact edges1_ok hx e (by simpa using he) hb
      | succ k =>
        have := edgesOk_ok h k o (by simpa using hk) e he hb
        omega
    · cases h

/-! ### How many are left -/
def left : List Bool → Nat
  | [] => 0
  | b :: l => (if b then 0 else 1) + left l
theorem left_set : ∀ (l : List Bool) (i : Nat), l[i]? = some false → left (l.set i true) + 1 = left l
  | [], i, h => by simp at h
  | b :: l, 0, h => by simp at h; subst h; simp [left]; omega
  | b :: l, i + 1, h => by have := left_set l i (by simpa using h); simp only [List.set_cons_succ, left]; omega
theorem left_zero : ∀ (l : List Bool), left l = 0 → ∀ i, i < l.length → l[i]? = some true
  | [], _, i, hi => by simp at hi
  | b :: l, h, i, hi => by
    simp only [left] at h
    cases b with
    | false => simp at h
    | true =>
      cases i with
      | zero => rfl
      | succ i => simpa using left_zero l (by simpa using h) i (by simpa using hi)
theorem left_replicate : ∀ n, left (List.replicate n false) = n
  | 0 => rfl
  | n + 1 => by simp only [List.replicate_succ, left, left_replicate n]; simp; omega

theorem nx_mono {P : Program} {ops : Array Oper} {nt : Nat} {st : Nat → Stt} {ss : List Sp} (hst : ∀ k o, ops.toList[k]? = some o → ∃ s, ss[k]? = some s ∧ s.idx = 0 + k ∧ Sok P ops nt o s (st k) (st (k + 1))) :
    ∀ d k, k + d ≤ ops.size → (st k).2.2 ≤ (st (k + d)).2.2
  | 0, _, _ => Nat.le_refl _
  | d + 1, k, h => by
    have h1 := nx_mono hst d k (by omega)
    obtain ⟨s, _, _, hs⟩ := hst (k + d) ops[k + d] (by simp)
    exact Nat.le_trans h1 hs.le

theorem dm_chain {P : Program} {ops : Array Oper} {nt : Nat} {st : Nat → Stt} {ss : List Sp} (hst : ∀ k o, ops.toList[k]? = some o → ∃ s, ss[k]? = some s ∧ s.idx = 0 + k ∧ Sok P ops nt o s (st k) (st (k + 1))) :
    ∀ k, k ≤ ops.size → Dm (st 0).2.1.get (st k).2.1.get (st 0).2.2 (st k).2.2
  | 0, _ => Dm.refl _ _
  | k + 1, h => by
    have h1 := dm_chain hst k (by omega)
    obtain ⟨s, _, _, hs⟩ := hst k ops[k] (by simp)
    refine h1.trans ⟨hs.le, fun b hb => ?_⟩
    by_cases hG : s.G.get b ≠ none ∨ ((st k).2.2 ≤ b ∧ b < (st (k + 1)).2.2)
    · rcases hG with hG | hG
      · cases hGb : s.G.get b with
        | none => exact absurd hGb hG
        | some ob => exact .inl (by rw [hs.sub b ob hGb]; simp)
      · exact .inr hG
    · rw [hs.m2 b hG] at hb; exact .inl hb

theorem evDraw_ok {P : Program} (hN : NoNum P) (hmix : P.follows .mixedOrders = true) {F : Fns} (hF : OpsOk P F) {ops : Array Oper} {nt : Nat} {tm : Tr V} {H : Tr AObj} {nx : Nat} {tm' : Tr V} {H' : Tr AObj} {nx' : Nat}
    (he : evDraw F P ops nt tm H nx = some (tm', H', nx')) :
    Dm H.get H'.get nx nx' ∧ ∀ (η : Env) (h : Hp) (w : World) (A : Act) (ro : Option Nat) (n id : Nat) (Q : Exit → Act → World → Prop), Pre η h w H.get nx nx' → RA η tm A.tmps → A.tmps.size = nt → η.glob P →
      (∀ η' w' A', Stp η h w H.get H'.get nx nx' η' w' → RA η' tm' A'.tmps → A'.tmps.size = nt → A'.defers = A.defers → Q .normal A' w') → (Code.region id ops true).wpIn (fe ro) n P Q A w := by
  unfold evDraw at he
  split at he
  case h_2 => cases he
  rename_i tm' H' nx' ss hstat hev
  split at he
  case h_2 => cases he
  rename_i hchk
  cases he
  rw [Bool.and_eq_true] at hstat
  obtain ⟨hedges, htmps⟩ := hstat
  obtain ⟨st, e0, e1, hst⟩ := evD_ok hN hF _ _ _ _ _ _ _ _ _ _ hev
  simp only [Array.length_toList] at e1
  have hdm := dm_chain hst
  have hmono := nx_mono hst
  have hD : Dm H.get H'.get nx nx' := by have := hdm ops.size (Nat.le_refl _); rw [e0, e1] at this; exact this
  refine ⟨hD, fun η0 h0 w0 A0 ro n id Q p0 ra0 hn0 hg0 hQ => ?_⟩
  -- facts on the operations
  have hop : ∀ i o, ops[i]? = some o → ∃ s, ss[i]? = some s ∧ s.idx = i ∧ Sok P ops nt o s (st i) (st (i + 1)) := fun i o ho => by
    obtain ⟨s, h1, h2, h3⟩ := hst i o (by simpa using ho)
    exact ⟨s, h1, by omega, h3⟩
  have hat : ∀ i, i < ops.size → ∃ o s, ops[i]? = some o ∧ ss[i]? = some s ∧ s.idx = i ∧ Sok P ops nt o s (st i) (st (i + 1)) := fun i hi => by
    obtain ⟨s, h1, h2, h3⟩ := hop i ops[i] (by simp)
    exact ⟨ops[i], s, by simp, h1, h2, h3⟩
  -- two operations that are not ordered
  have hpair : ∀ i j, i < ops.size → j < ops.size → i ≠ j → ¬ Anc ops i j → ¬ Anc ops j i → ∀ s, ss[j]? = some s → ∀ k, Mb (st i) (st (i + 1)) k → s.G.get k = none := by
    intro i j hi hj hne n1 n2 s hs k hk
    obtain ⟨oi, si, h1, h2, h3, h4⟩ := hat i hi
    obtain ⟨oj, sj, g1, g2, g3, g4⟩ := hat j hj
    rw [hs] at g2; cases g2
    rcases Nat.lt_or_ge i j with hlt | hge
    · rcases chkAll_ok hchk i j si s hlt h2 hs with hb | hb
      · rw [h3, g3] at hb; exact absurd hb n2
      · exact (pair_ok h4 g4 hb).1 k hk
    · rcases chkAll_ok hchk j i s si (by omega) hs h2 with hb | hb
      · rw [h3, g3] at hb; exact absurd hb n1
      · exact (pair_ok g4 h4 hb).2 k hk
  have hnew : ∀ i, i < ops.size → ∀ s, ss[i]? = some s → ∀ k, Mb (st i) (st (i + 1)) k → s.G.get k = none → (st i).2.2 ≤ k ∧ k < (st (i + 1)).2.2 := by
    intro i hi s hs k hM hG
    obtain ⟨o, s', h1, h2, h3, h4⟩ := hat i hi
    rw [hs] at h2; cases h2
    refine Classical.byContradiction fun hc => ?_
    rcases hM with hM | hM
    · exact hM (h4.m2 k (by rintro (hx | hx); exact hx hG; exact hc hx))
    · exact hc hM
  have hord : ∀ i, i < ops.size → ∀ k, Mb (st i) (st (i + 1)) k → ∀ j, j < ops.size → j ≠ i → Mb (st j) (st (j + 1)) k → Anc ops i j ∨ Anc ops j i := by
    intro i hi k hMi j hj hne hMj
    refine Classical.byContradiction fun hc => ?_
    have n1 : ¬ Anc ops i j := fun h => hc (.inl h)
    have n2 : ¬ Anc ops j i := fun h => hc (.inr h)
    obtain ⟨oi, si, h1, h2, h3, h4⟩ := hat i hi
    obtain ⟨oj, sj, g1, g2, g3, g4⟩ := hat j hj
    have a1 := hnew i hi si h2 k hMi (hpair j i hj hi hne n2 n1 si h2 k hMj)
    have a2 := hnew j hj sj g2 k hMj (hpair i j hi hj (Ne.symm hne) n1 n2 sj g2 k hMi)
    rcases Nat.lt_or_ge i j with hlt | hge
    · obtain ⟨d, rfl⟩ : ∃ d, j = (i + 1) + d := ⟨j - (i + 1), by omega⟩
      have := hmono d (i + 1) (by omega); omega
    · obtain ⟨d, rfl⟩ : ∃ d, i = (j + 1) + d := ⟨i - (j + 1), by omega⟩
      have := hmono d (j + 1) (by omega); omega
  have hordT : ∀ i o, ops[i]? = some o → ∀ t, t ∈ namesOf ops o → ∀ j, j < ops.size → j ≠ i → (∃ o', ops[j]? = some o' ∧ o'.dst = some t) → Anc ops i j ∨ Anc ops j i := by
    rintro i o ho t ht j hj hne ⟨o', ho', hd'⟩
    have hw := tmpsOk_ok htmps i o (by simpa using ho) t ht
    rcases writers_ok hw j o' (by simpa using ho') hd' with h | h | h
    · omega
    · exact .inl (by simpa [Anc] using h)
    · exact .inr (by simpa [Anc] using h)
  -- the canonical heaps
  obtain ⟨hs, hhs⟩ : ∃ hs : Nat → Hp, hs = fun i => ovr h0 H.get (st i).2.1.get nx (st i).2.2 := ⟨_, rfl⟩
  have hkey : ∀ i, i ≤ ops.size → ∀ k, (st i).2.1.get k ≠ none → hs i k = (st i).2.1.get k := fun i hi k hk => by
    rw [hhs]
    have := (hdm i hi).dom k hk
    rw [e0] at this
    exact ovr_in this
  have hstay : ∀ i k, i < ops.size → ¬ Mb (st i) (st (i + 1)) k → hs (i + 1) k = hs i k := fun i k hi hM => by
    have hsame : (st (i + 1)).2.1.get k = (st i).2.1.get k := Classical.byContradiction fun h => hM (.inl h)
    have hnn : ¬ ((st i).2.2 ≤ k ∧ k < (st (i + 1)).2.2) := fun h => hM (.inr h)
    have hle := hmono 1 i (by omega)
    rw [hhs]
    by_cases hin : H.get k ≠ none ∨ (nx ≤ k ∧ k < (st i).2.2)
    · show ovr h0 H.get (st (i + 1)).2.1.get nx (st (i + 1)).2.2 k = ovr h0 H.get (st i).2.1.get nx (st i).2.2 k
      rw [ovr_in hin, ovr_in (by rcases hin with hin | hin; exact .inl hin; exact .inr ⟨hin.1, by omega⟩), hsame]
    · show ovr h0 H.get (st (i + 1)).2.1.get nx (st (i + 1)).2.2 k = ovr h0 H.get (st i).2.1.get nx (st i).2.2 k
      rw [ovr_out hin, ovr_out (by
        rintro (hx | hx)
        · exact hin (.inl hx)
        · by_cases hlt : k < (st i).2.2
          · exact hin (.inr ⟨hx.1, hlt⟩)
          · exact hnn ⟨by omega, hx.2⟩)]
  have hstayT : ∀ i (t : Nat), i < ops.size → ¬ (∃ o, ops[i]? = some o ∧ o.dst = some t) → (st (i + 1)).1.get t = (st i).1.get t := fun i t hi hM => by
    obtain ⟨o, s, h1, _, _, h4⟩ := hat i hi
    have hp := h4.put
    unfold putA at hp
    split at hp
    · exact congrArg (fun x => x.get t) (Option.some.inj hp).symm
    · rename_i d hd
      split at hp
      · have hp := Option.some.inj hp
        rw [← hp, Tr.get_put_other]
        intro e; subst e; exact hM ⟨o, h1, hd⟩
      · cases hp
  -- from every state that the region may be in
  have main : ∀ (fuel : Nat) (listed : Array Bool) (A : Act) (w : World), listed.size = ops.size → left listed.toList = fuel →
      (∃ (η : Env) (h : Hp) (τ : Nat → Option V),
        Agree ops.size hs (fun i => Mb (st i) (st (i + 1))) (fun i => listed.getD i false = true) h ∧
        Agree ops.size (fun i t => (st i).1.get t) (fun i t => ∃ o, ops[i]? = some o ∧ o.dst = some t) (fun i => listed.getD i false = true) τ ∧
        RH η h w ∧ (∀ t v, τ t = some v → v.conc η = some (A.tmps.getD t Go.undef)) ∧ A.tmps.size = nt ∧ A.defers = A0.defers ∧
        η0.le η ∧ (∀ b, ¬ (nx ≤ b ∧ b < nx') → η.blk b = η0.blk b ∧ η.unk b = η0.unk b ∧ η.em b = η0.em b) ∧
        (∀ i, i < ops.size → ¬ (listed.getD i false = true) → ∀ b, (st i).2.2 ≤ b → b < (st (i + 1)).2.2 → η.blk b = none ∧ η.unk b = none ∧ η.em b = none) ∧
        (∀ k, Img η h k → Img η0 h0 k ∨ w0.heap.size ≤ k) ∧ Fr η0 h0 w0 w ∧ Closed ops (fun i => listed.getD i false = true)) →
      wpAnyIn (fe ro) n P .any ops Q fuel listed A w := by
    have hfin : ∀ (listed : Array Bool) (A : Act) (w : World), (∀ i, i < ops.size → listed.getD i false = true) →
      (∃ (η : Env) (h : Hp) (τ : Nat → Option V),
        Agree ops.size hs (fun i => Mb (st i) (st (i + 1))) (fun i => listed.getD i false = true) h ∧
        Agree ops.size (fun i t => (st i).1.get t) (fun i t => ∃ o, ops[i]? = some o ∧ o.dst = some t) (fun i => listed.getD i false = true) τ ∧
        RH η h w ∧ (∀ t v, τ t = some v → v.conc η = some (A.tmps.getD t Go.undef)) ∧ A.tmps.size = nt ∧ A.defers = A0.defers ∧
        η0.le η ∧ (∀ b, ¬ (nx ≤ b ∧ b < nx') → η.blk b = η0.blk b ∧ η.unk b = η0.unk b ∧ η.em b = η0.em b) ∧
        (∀ i, i < ops.size → ¬ (listed.getD i false = true) → ∀ b, (st i).2.2 ≤ b → b < (st (i + 1)).2.2 → η.blk b = none ∧ η.unk b = none ∧ η.em b = none) ∧
        (∀ k, Img η h k → Img η0 h0 k ∨ w0.heap.size ≤ k) ∧ Fr η0 h0 w0 w ∧ Closed ops (fun i => listed.getD i false = true)) → Q .normal A w := by
      rintro listed A w hall ⟨η, h, τ, ag, agT, rh, hτ, hsz, hdf, hle, hnm, _, himg, hfr, _⟩
      have eh : h = ovr h0 H.get H'.get nx nx' := by
        have := ag.done hstay hall
        rw [hhs] at this; simp only [e1] at this; exact this
      have eτ : τ = tm'.get := by
        have := agT.done hstayT hall
        simp only [e1] at this; exact this
      subst eh; subst eτ
      exact hQ η w A ⟨hle, hnm, rh, himg, hfr⟩ hτ hsz hdf
    intro fuel
    induction fuel with
    | zero =>
      intro listed A w hsz hl hinv
      have hall : ∀ i, i < ops.size → listed.getD i false = true := fun i hi => by
        have := left_zero listed.toList hl i (by simpa [hsz] using hi)
        simp only [Array.getElem?_toList] at this
        simp [this]
      refine ⟨?_, hfin listed A w hall hinv⟩
      unfold Region.ready
      rw [List.filter_eq_nil_iff]
      intro i hi
      have hlt := List.mem_range.1 hi
      have := hall i hlt
      have hlt' : i < listed.size := by omega
      simp [hlt'] at this
      simp [hlt', this]
    | succ fuel ih =>
      intro listed A w hsz hl hinv
      refine ⟨fun hr => ?_, fun i hi => ?_⟩
      · -- none is left that may come up: all have come up
        have hall : ∀ i, i < ops.size → listed.getD i false = true := by
          intro i
          induction i using Nat.strongRecOn with
          | _ i ihi =>
            intro hlt
            refine Classical.byContradiction fun hc => ?_
            have hmem : i ∈ Region.ready .any ops listed := by
              rw [mem_ready]
              have hlt' : i < listed.size := by omega
              refine ⟨by simp [hlt'] at hc ⊢; exact hc, ops[i], by simp, fun e he hb => ?_⟩
              have := edgesOk_ok hedges i ops[i] (by simp) e he hb
              exact ihi e.on (by omega) (by omega)
            rw [hr] at hmem; cases hmem
        exact hfin listed A w hall hinv
      · obtain ⟨hun, o, ho, hall⟩ := mem_ready.1 hi
        have hi' : i < ops.size := (Array.getElem?_eq_some_iff.1 ho).1
        have hil : i < listed.size := by omega
        have hnL : ¬ (listed.getD i false = true) := by simp [hil] at hun ⊢; exact hun
        obtain ⟨s, hs1, hs2, hs3⟩ := hop i o ho
        obtain ⟨η, h, τ, ag, agT, rh, hτ, hszA, hdf, hle, hnm, hfresh, himg, hfr, hcl⟩ := hinv
        have hup : ∀ j, Anc ops i j → listed.getD j false = true := fun j hj => hj.ready hcl ho hall
        have hdn : ∀ j, Anc ops j i → ¬ (listed.getD j false = true) := fun j hj hL => hnL (hj.closed hcl hL)
        have hltA : ∀ i j, Anc ops i j → j < i := fun i j h => h.lt
        -- the temporaries that it looks at
        have hra : RA η (restrT (st i).1 (o.looksAt ops)) A.tmps := by
          intro t v hv
          rw [get_restrT] at hv
          split at hv
          · rename_i ht
            have := agT.look hstayT hltA hi' hnL hup hdn (k := t) (fun j hj hne hM => hordT i o ho t (by unfold namesOf; simp [ht]) j hj hne hM)
            exact hτ t v (this.trans hv)
          · cases hv
        -- the blocks that it sees
        have hext : ∀ b ob, s.G.get b = some ob → h b = some ob := by
          intro b ob hb
          have hne : (st i).2.1.get b ≠ none := by rw [hs3.sub b ob hb]; simp
          have := ag.look hstay hltA hi' hnL hup hdn (k := b) (fun j hj hne' hM => Classical.byContradiction fun hc => by
            have := hpair j i hj hi' hne' (fun h => hc (.inr h)) (fun h => hc (.inl h)) s hs1 b hM
            rw [hb] at this; cases this)
          rw [this, hkey i (by omega) b hne, hs3.sub b ob hb]
        have hpre : Pre η h w s.G.get (st i).2.2 (st (i + 1)).2.2 := ⟨hext, rh, fun b h1 h2 => hfresh i hi' hnL b h1 h2⟩
        have hgl : η.glob P := glob_mono hg0 hle
        -- what holds behind it
        have after : ∀ (cv : Value) (w' : World) (η' : Env), s.v.conc η' = some cv → Stp η h w s.G.get s.G'.get (st i).2.2 (st (i + 1)).2.2 η' w' →
            wpAnyIn (fe ro) n P .any ops Q fuel (listed.setIfInBounds i true) (A.put o.dst cv) w' := by
          intro cv w' η' hv hstp
          have hL' : ∀ j, ((listed.setIfInBounds i true).getD j false = true) ↔ (listed.getD j false = true ∨ j = i) := by
            intro j
            by_cases e : j = i
            · subst e; simp [hil]
            · simp [Array.getElem?_setIfInBounds_ne (Ne.symm e), e]
          have hLe : (fun j => (listed.setIfInBounds i true).getD j false = true) = (fun j => listed.getD j false = true ∨ j = i) := funext fun j => propext (hL' j)
          have hrange : ∀ j, j < ops.size → j ≠ i → ∀ b, (st j).2.2 ≤ b → b < (st (j + 1)).2.2 → ¬ ((st i).2.2 ≤ b ∧ b < (st (i + 1)).2.2) := by
            intro j hj hne b h1 h2 h3
            rcases Nat.lt_or_ge i j with hlt | hge
            · obtain ⟨d, rfl⟩ : ∃ d, j = (i + 1) + d := ⟨j - (i + 1), by omega⟩
              have := hmono d (i + 1) (by omega); omega
            · obtain ⟨d, rfl⟩ : ∃ d, i = (j + 1) + d := ⟨i - (j + 1), by omega⟩
              have := hmono d (j + 1) (by omega); omega
          refine ih _ _ _ (by simpa using hsz) ?_ ⟨η', ovr h s.G.get s.G'.get (st i).2.2 (st (i + 1)).2.2, fun t => if o.dst = some t then some s.v else τ t, ?_, ?_, hstp.rh, ?_, ?_, ?_, hle.trans hstp.le, ?_, ?_, ?_, ?_, ?_⟩
          · have := left_set listed.toList i (by simp [hil] at hun ⊢; exact hun)
            simp only [Array.toList_setIfInBounds]; omega
          · rw [hLe]
            refine ag.step hltA hi' hup hdn (hord i hi') (fun k hM => ?_) (fun k hM => ?_)
            · by_cases hG : s.G.get k ≠ none ∨ ((st i).2.2 ≤ k ∧ k < (st (i + 1)).2.2)
              · rw [ovr_in hG, ← hs3.m1 k hG, hhs]
                refine (ovr_in ?_).symm
                rcases hG with hG | hG
                · cases hGk : s.G.get k with
                  | none => exact absurd hGk hG
                  | some ob =>
                    have := (hdm i (by omega)).dom k (by rw [hs3.sub k ob hGk]; simp)
                    rw [e0] at this
                    rcases this with h1 | h1
                    · exact .inl h1
                    · exact .inr ⟨h1.1, by have := hs3.le; simp only at h1; omega⟩
                · have := hmono i 0 (by omega)
                  rw [e0] at this
                  exact .inr ⟨by simp only [Nat.zero_add] at this; omega, hG.2⟩
              · exfalso
                rcases hM with hM | hM
                · exact hM (hs3.m2 k hG)
                · exact hG (.inr hM)
            · by_cases hG : s.G.get k ≠ none ∨ ((st i).2.2 ≤ k ∧ k < (st (i + 1)).2.2)
              · rw [ovr_in hG, ← hs3.m1 k hG]
                have hsame : (st (i + 1)).2.1.get k = (st i).2.1.get k := Classical.byContradiction fun hc => hM (.inl hc)
                rcases hG with hG | hG
                · cases hGk : s.G.get k with
                  | none => exact absurd hGk hG
                  | some ob => rw [hsame, hs3.sub k ob hGk, hext k ob hGk]
                · exact absurd (.inr hG) hM
              · rw [ovr_out hG]
          · rw [hLe]
            refine agT.step hltA hi' hup hdn (fun t hM j hj hne hMj => ?_) (fun t hM => ?_) (fun t hM => ?_)
            · obtain ⟨o', ho', hd'⟩ := hM
              rw [ho] at ho'; cases ho'
              exact hordT i o ho t (by unfold namesOf; simp [hd']) j hj hne hMj
            · obtain ⟨o', ho', hd'⟩ := hM
              rw [ho] at ho'; cases ho'
              have hp := hs3.put
              unfold putA at hp
              simp only [hd'] at hp ⊢
              split at hp
              · have hp := Option.some.inj hp
                rw [← hp, Tr.get_put_same]; simp
              · cases hp
            · have : ¬ (o.dst = some t) := fun hd => hM ⟨o, ho, hd⟩
              simp [this]
          · intro t v hτt
            simp only at hτt
            have hp := hs3.put
            unfold putA at hp
            by_cases hd : o.dst = some t
            · rw [if_pos hd] at hτt; cases hτt
              simp only [hd] at hp
              split at hp
              · rename_i hlt
                have := blt_lt hlt
                rw [hv]
                simp [Act.put, hd, hszA, this]
              · cases hp
            · rw [if_neg hd] at hτt
              rw [V.conc_mono hstp.le (hτ t v hτt)]
              cases hdd : o.dst with
              | none => rfl
              | some d =>
                have hne : d ≠ t := fun e => hd (by rw [hdd, e])
                simp [Act.put, Array.getElem?_setIfInBounds_ne hne]
          · cases hdd : o.dst <;> simp [Act.put, hszA]
          · cases hdd : o.dst <;> simp [Act.put, hdf]
          · intro b hb
            have h1 := hstp.names b (by
              intro hc
              have a1 := hmono i 0 (by omega)
              have a2 := hmono (ops.size - (i + 1)) (i + 1) (by omega)
              rw [show i + 1 + (ops.size - (i + 1)) = ops.size by omega, e1] at a2
              rw [e0] at a1
              simp only [Nat.zero_add] at a1 a2
              exact hb ⟨by omega, by omega⟩)
            have h2 := hnm b hb
            exact ⟨h1.1.trans h2.1, h1.2.1.trans h2.2.1, h1.2.2.trans h2.2.2⟩
          · intro j hj hnj b h1 h2
            have hnj' : ¬ (listed.getD j false = true ∨ j = i) := fun hc => hnj ((hL' j).2 hc)
            have hne : j ≠ i := fun e => hnj' (.inr e)
            have h3 := hstp.names b (hrange j hj hne b h1 h2)
            have h4 := hfresh j hj (fun hc => hnj' (.inl hc)) b h1 h2
            exact ⟨h3.1.trans h4.1, h3.2.1.trans h4.2.1, h3.2.2.trans h4.2.2⟩
          · intro k hk
            rcases hstp.img k hk with h1 | h1
            · exact himg k h1
            · exact .inr (Nat.le_trans hfr.size h1)
          · exact hfr.trans hstp.fr himg
          · rw [hLe]
            intro j oj hj hLj e he hb
            rcases hLj with hLj | rfl
            · exact .inl (hcl j oj hj hLj e he hb)
            · rw [ho] at hj; cases hj; exact .inl (hall e he hb)
        unfold wpOpIn
        rw [ho]
        simp only
        rcases hs3.done with ⟨hgd, hok⟩ | ⟨hgd, hvv, hG, hG', hst2⟩
        · rw [evGuard_ok hgd hra, if_pos rfl]
          exact hok.2 η h w A ro n _ Q hpre hra hgl after
        · rw [evGuard_ok hgd hra, if_neg (by simp)]
          refine ⟨fun _ _ => trivial, after Go.undef w η (by rw [hvv]; rfl) ?_⟩
          rw [hG, hG', ← hst2]
          exact Stp.refl (fun b o hb => by simp [Tr.get_nil] at hb) rh
  refine wpIn_region_any hmix (main ops.size _ A0 _ (by simp) (by simp [left_replicate]) ?_)
  refine ⟨η0, h0, tm.get, ?_, ?_, ⟨fun b o hb => p0.rh.live b o hb, p0.rh.inj⟩, ra0, hn0, rfl, .refl _, fun _ _ => ⟨rfl, rfl, rfl⟩, ?_, fun k hk => .inl hk, ⟨rfl, rfl, rfl, Nat.le_refl _, fun _ _ _ => rfl⟩, ?_⟩
  · have hL0 : (fun i => (Array.replicate ops.size false).getD i false = true) = (fun _ => False) := by
      funext i; by_cases hi : i < ops.size <;> simp [hi]
    rw [hL0]
    have : hs 0 = h0 := by rw [hhs]; simp only [e0]; exact ovr_same p0.ext
    rw [← this]; exact Agree.start
  · have hL0 : (fun i => (Array.replicate ops.size false).getD i false = true) = (fun _ => False) := by
      funext i; by_cases hi : i < ops.size <;> simp [hi]
    rw [hL0]
    have : (fun t => (st 0).1.get t) = tm.get := by rw [e0]
    rw [← this]; exact Agree.start
  · intro i hi _ b h1 h2
    have a1 := hmono i 0 (by omega)
    have a2 := hmono (ops.size - (i + 1)) (i + 1) (by omega)
    rw [show i + 1 + (ops.size - (i + 1)) = ops.size by omega, e1] at a2
    rw [e0] at a1
    simp only [Nat.zero_add] at a1 a2
    exact p0.fresh b (by omega) (by omega)
  · intro i o ho hL
    have hi : i < ops.size := (Array.getElem?_eq_some_iff.1 ho).1
    simp [hi] at hL

end Go.Proofs.YtmnaddlniaklcaaGreatDoor.Ev
