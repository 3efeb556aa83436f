/- Part of ReportRatio. -/
import Derived.Test.YtedpaajpfaoffaaGreatDoorMr2
import Derived.Test.YtedpaajpfaoffaaGreatDoorMh2d
namespace Go.Proofs.YtedpaajpfaoffaaGreatDoor
open Go Ev
theorem Stp.fresh {η : Env} {h : Hp} {w w' : World} {H : Tr AObj} {nx : Nat} (p : Pre η h w H.get nx (nx + 1)) (t : Touch [] w w') {g : Nat} {co : Obj} {o : AObj} {c : Nat} (hg : w.heap.size ≤ g) (hw : w'.heap[g]? = some co)
    (hr : o.Rel (η.set nx (g, 0) c) nx (g, 0) co) : Stp η h w H.get (H.put (some o) nx).get nx (nx + 1) (η.set nx (g, 0) c) w' := by
  obtain ⟨hnb, _, _⟩ := p.fresh nx (Nat.le_refl _) (by omega)
  have hle := Env.le_set hnb (g, 0) c
  have hold : ∀ k, k < w.heap.size → w'.heap[k]? = w.heap[k]? := fun k hk => t.block k hk (by simp)
  have hnone : H.get nx = none := by
    cases ho : H.get nx with
    | none => rfl
    | some o' => have := p.ext nx o' ho; rw [p.rh.fresh hnb] at this; cases this
  have hov : ovr h H.get (H.put (some o) nx).get nx (nx + 1) = fun b => if b = nx then some o else h b := by
    funext b
    by_cases e : b = nx
    · subst e; rw [ovr_in (.inr (by omega)), Tr.get_put_same]; simp
    · by_cases hb : H.get b ≠ none
      · rw [ovr_in (.inl hb), Tr.get_put_other _ _ e]; simp only [e, if_false]
        cases ho : H.get b with
        | none => exact absurd ho hb
        | some o' => exact (p.ext b o' ho).symm
      · rw [ovr_out (by intro hc; rcases hc with hc | hc; exact hb hc; omega)]; simp [e]
  have hlt : ∀ b B o', h b = some o' → η.blk b = some B → B.1 < w.heap.size := fun b B o' ho hB => by
    obtain ⟨B', co', h1, h2, _⟩ := p.rh.live b o' ho
    rw [hB] at h1; cases h1
    exact (Array.getElem?_eq_some_iff.1 h2).1
  refine ⟨hle, fun b hb => ?_, ?_, ?_, ?_⟩
  · exact ⟨Env.set_other (by omega) _ _, rfl, rfl⟩
  · rw [hov]
    refine ⟨fun b o' hb => ?_, fun b b' B B' hb hb' hB hB' e => ?_⟩
    · by_cases e : b = nx
      · subst e; simp at hb; subst hb; exact ⟨_, co, Env.set_same _ _ _ _, hw, hr⟩
      · simp only [e, if_false] at hb
        obtain ⟨B, co', h1, h2, h3⟩ := p.rh.live b o' hb
        exact ⟨B, co', (hle.blk b B h1).1, by rw [hold _ (hlt b B o' hb h1)]; exact h2, h3.mono hle h1⟩
    · by_cases e1 : b = nx
      · by_cases e2 : b' = nx
        · rw [e1, e2]
        · subst e1; simp only [e2, if_false] at hb'
          rw [Env.set_same] at hB; cases hB
          rw [Env.set_other e2] at hB'
          cases ho : h b' with
          | none => exact absurd ho hb'
          | some o' => have := hlt b' B' o' ho hB'; simp at e; omega
      · simp only [e1, if_false] at hb
        rw [Env.set_other e1] at hB
        by_cases e2 : b' = nx
        · subst e2; rw [Env.set_same] at hB'; cases hB'
          cases ho : h b with
          | none => exact absurd ho hb
          | some o' => have := hlt b B o' ho hB; simp at e; omega
        · simp only [e2, if_false] at hb'
          rw [Env.set_other e2] at hB'
          exact p.rh.inj b b' B B' hb hb' hB hB' e
  · rw [hov]
    rintro k ⟨b, B, hb, hB, rfl⟩
    by_cases e : b = nx
    · subst e; rw [Env.set_same] at hB; cases hB; exact .inr hg
    · simp only [e, if_false] at hb; rw [Env.set_other e] at hB; exact .inl ⟨b, B, hb, hB, rfl⟩
  · exact ⟨t.os, t.tape, t.output, t.size, fun k hk _ => hold k hk⟩
theorem exB_eq : ∀ {l m : List UInt8}, exB l m = true → l = m
  | [], [], _ => rfl
  | a :: l, b :: m, h => by
    simp only [exB, Bool.and_eq_true] at h
    rw [UInt8.toNat_inj.1 (Nat.eq_of_beq_eq_true h.1), exB_eq h.2]
theorem resArg_ok {H : Tr AObj} {x : At} {bs : List UInt8} (hx : resArg H x = some bs) {η : Env} {hp : Hp} {w : World} (ext : ∀ b o, H.get b = some o → hp b = some o) (rh : RH η hp w) {c : Value} (hc : x.conc η = some c) : Bytes w c bs := by
  unfold resArg at hx
  split at hx
  case h_2 => cases hx
  rename_i b o n cp
  split at hx
  case h_2 => cases hx
  rename_i hle
  rw [Bool.and_eq_true] at hle
  have h1 := Nat.le_of_ble_eq_true hle.1
  have h2 := Nat.le_of_ble_eq_true hle.2
  split at hx
  case h_2 => cases hx
  rename_i l hl
  obtain ⟨B2, vs, C, E, hrow, hvs, hlen, hcell⟩ := row_ok ext rh hl
  rw [bytesOf_conc η hx] at hvs
  obtain rfl := Option.some.inj hvs
  have hbl : bs.length = n := by
    have := concs_length l _ (bytesOf_conc η hx)
    rw [List.length_map] at this
    omega
  simp only [At.conc, hrow.blk] at hc
  have hc := (Option.some.inj hc).symm
  subst hc
  refine ⟨some (adr B2 o), cp, by rw [hbl], by omega, by unfold maxLen; omega, by simp, fun _ => ⟨B2.1, B2.2 + o, rfl, ?_, fun j u hj => ?_⟩⟩
  · obtain ⟨z, hz⟩ := hrow.heap
    exact (Array.getElem?_eq_some_iff.1 hz).1
  · have := hcell j u (by simpa [B] using hj)
    rw [adr_add] at this
    simpa [adr, Nat.add_assoc] using this
theorem resHook_ok : HookOk Tryz.prog resHook := by
  intro f args H nx v H' nx' he xs hxs
  unfold resHook at he
  cases hf : Nat.beq f 15 with
  | false => rw [hf] at he; cases he
  | true =>
    rw [hf] at he
    have hf := Nat.eq_of_beq_eq_true hf
    subst hf
    replace he : resTry args H nx = .ok v H' nx' := he
    unfold resTry at he
    split at he
    case h_2 => cases he
    rename_i x
    unfold resO at he
    split at he
    case h_2 => cases he
    rename_i bs hbs
    cases hb : (exB bs ex52 && okT H tRes) with
    | false => rw [hb] at he; cases he
    | true =>
      rw [hb] at he
      cases he
      cases hxs
      rw [Bool.and_eq_true] at hb
      obtain rfl := exB_eq hb.1
      refine ⟨_, rfl, ⟨_, Tryz.func15, by kernel_rfl⟩, ?_, fun η hp w cargs p hvl hg => ?_⟩
      · exact dm_alloc _ _ _
      match cargs, hvl with
      | [c], hvl =>
        have hc : x.conc η = some c := Ev.one_conc.1 hvl.1
        have hR := resArg_ok hbs p.ext p.rh hc
        have hT := tabs_pre hb.2 tRes_lt (p.less (Nat.le_refl _)) hg
        refine (result_known c w hR (rn_of hT)).mono ?_
        rintro e w' ⟨u, rfl, ho, hf, t⟩
        rcases ho.2 with ⟨_, hnil⟩ | ⟨g, cap, cur, rfl, _, hh, hnc, hcm, hcs, htk⟩
        · cases hnil
        have hgs : w.heap.size ≤ g := hf g (by simp [blk])
        have hs := Stp.fresh (o := resObj) (c := cap) p t hgs hh ⟨cur, rfl, by rw [Env.cap_same]; simp; omega, by rw [Env.cap_same]; omega, ⟨by omega, by rw [Env.cap_same]; exact hcm⟩, ?_⟩
        · exact ⟨_, _, rfl, by simp [V.conc, comps, comp, concs, At.conc, Env.set_same, Env.cap_same, adr], hs⟩
        · refine Cells.new (vs := [.string ⟨#[114, 101, 118, 101, 114, 115, 101]⟩, .string ⟨ev52.toArray⟩, .string ⟨nx52.toArray⟩]) rfl (fun j v hj => ?_) (by simp)
          have h3 : cur.toList.take 3 = [.string ⟨#[114, 101, 118, 101, 114, 115, 101]⟩, .string ⟨ev52.toArray⟩, .string ⟨nx52.toArray⟩] := htk
          rw [← h3, List.getElem?_take] at hj
          split at hj
          · rw [← Array.getElem?_toList]; exact hj
          · cases hj
end Go.Proofs.YtedpaajpfaoffaaGreatDoor
