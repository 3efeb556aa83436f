/- A quick interpreter for the kernel: proofs, ninth part: calls; the quick interpreter is right. -/
import Derived.Test.YtmnaddlniaklcaaGreatDoorQp8
namespace Go.Proofs.YtmnaddlniaklcaaGreatDoor.Ev
open Go
set_option linter.unusedSimpArgs false

/-! ### Arguments -/
theorem VsOf_length : ∀ {l : List FV} {xs : List V}, VsOf l = some xs → xs.length = l.length
  | [], xs, h => by cases h; rfl
  | v :: l, xs, h => by
    simp only [VsOf] at h
    cases hv : v.toV with
    | none => simp [hv] at h
    | some x => cases hl : VsOf l with
      | none => simp [hv, hl] at h
      | some ys => simp [hv, hl] at h; subst h; simp [VsOf_length hl]
theorem nthF_toV : ∀ {l : List FV} {xs : List V} (n : Nat), VsOf l = some xs → (nthF l n).toV = xs[n]?
  | [], xs, n, h => by cases h; rfl
  | v :: l, xs, n, h => by
    simp only [VsOf] at h
    cases hv : v.toV with
    | none => simp [hv] at h
    | some x => cases hl : VsOf l with
      | none => simp [hv, hl] at h
      | some ys =>
        simp [hv, hl] at h; subst h
        cases n with
        | zero => exact hv
        | succ n => exact nthF_toV n hl
theorem lenL_eq : ∀ l : List FV, lenL l = l.length
  | [] => rfl
  | _ :: l => by show Nat.add (lenL l) 1 = _; rw [lenL_eq l]; rfl
theorem argRow_at (l : List FV) (n : Nat) : ∀ j, j < 8 → (argRow l n).at (i8 j) = nthF l (n + j)
  | 0, _ => rfl | 1, _ => rfl | 2, _ => rfl | 3, _ => rfl | 4, _ => rfl | 5, _ => rfl | 6, _ => rfl | 7, _ => rfl
  | n + 8, h => absurd h (by omega)
theorem none_at (j : I8) : (R8.none).at j = .no := by cases j <;> rfl
theorem frOf8_val {l : List FV} {xs : List V} (h : VsOf l = some xs) (hl : l.length ≤ 8) (t : Nat) : (frOf8 l).val t = xs[t]? := by
  have hlen := VsOf_length h
  by_cases ht : t < 64
  · rw [Fm.val_lt _ ht]
    by_cases h8 : t < 8
    · have e1 : (frOf8 l).at (i8 (t / 8)) = argRow l 0 := by rw [show t / 8 = 0 by omega]; rfl
      rw [e1, argRow_at _ _ _ (by omega), show 0 + t % 8 = t by omega, nthF_toV t h]
    · have e1 : (frOf8 l).at (i8 (t / 8)) = R8.none := by
        rcases (show t / 8 = 1 ∨ t / 8 = 2 ∨ t / 8 = 3 ∨ t / 8 = 4 ∨ t / 8 = 5 ∨ t / 8 = 6 ∨ t / 8 = 7 by omega) with e | e | e | e | e | e | e <;> rw [e] <;> rfl
      rw [e1, none_at, List.getElem?_eq_none (by omega)]; rfl
  · rw [Fm.val_ge _ (by omega), List.getElem?_eq_none (by omega)]; exact Tr.get_nil t
theorem frOf64_val {l : List FV} {xs : List V} (h : VsOf l = some xs) (hl : l.length ≤ 64) (t : Nat) : (frOf64 l).val t = xs[t]? := by
  have hlen := VsOf_length h
  by_cases ht : t < 64
  · rw [Fm.val_lt _ ht]
    have e1 : (frOf64 l).at (i8 (t / 8)) = argRow l (8 * (t / 8)) := by
      rcases (show t / 8 = 0 ∨ t / 8 = 1 ∨ t / 8 = 2 ∨ t / 8 = 3 ∨ t / 8 = 4 ∨ t / 8 = 5 ∨ t / 8 = 6 ∨ t / 8 = 7 by omega) with e | e | e | e | e | e | e | e <;> rw [e] <;> rfl
    rw [e1, argRow_at _ _ _ (by omega), show 8 * (t / 8) + t % 8 = t by omega, nthF_toV t h]
  · rw [Fm.val_ge _ (by omega), List.getElem?_eq_none (by omega)]; exact Tr.get_nil t
theorem tmOf_get : ∀ (l : List V) (i t : Nat), (tmOf i l).get t = if i ≤ t then l[t - i]? else none
  | [], i, t => by simp [tmOf, Tr.get_nil]
  | v :: l, i, t => by
    simp only [tmOf, Tr.get_put]
    by_cases e : t = i
    · subst e; simp
    · rw [if_neg e, tmOf_get l (i + 1) t]
      by_cases h : i + 1 ≤ t
      · rw [if_pos h, if_pos (by omega), show t - i = (t - (i + 1)) + 1 by omega]; rfl
      · rw [if_neg h, if_neg (by omega)]

/-! ### Results -/
theorem resQ_eq (P : Program) (f : Fm) (H : Tr AObj) (r : ResultVar) : resQ P f H r = resC P f.tr H r := by
  cases r <;> simp only [resQ, resC, Fm.get_tr] <;> rfl
theorem resQs_eq (P : Program) (f : Fm) (H : Tr AObj) : ∀ l, resQs P f H l = resCs P f.tr H l
  | [] => rfl
  | r :: l => by
    simp only [resQs, resCs, resQ_eq, resQs_eq P f H l]
    cases resC P f.tr H r <;> cases resCs P f.tr H l <;> rfl
theorem noTup_ok {u : FV} {H : Tr AObj} {nx : Nat} {v : FV} {H' : Tr AObj} {nx' : Nat} (h : noTup u H nx = .ok v H' nx') : H' = H ∧ nx' = nx ∧ ∃ g l, u.toV = some (.c g l) ∧ v.toV = some (.c g l) := by
  cases u <;> try (cases h; exact ⟨rfl, rfl, _, _, rfl, rfl⟩)
  · cases h
  · rename_i x
    cases x with
    | c g l => cases h; exact ⟨rfl, rfl, g, l, rfl, rfl⟩
    | tup l => cases h
theorem leaveR_ok {P : Program} {fn : Func} {f : Fm} {H : Tr AObj} {nx : Nat} {v : FV} {H' : Tr AObj} {nx' : Nat} (h : leaveR (rsOf fn.results.toList) P f H nx = .ok v H' nx') : ∃ cs, resCs P f.tr H fn.results.toList = some cs ∧ v.toV = some (resV cs) ∧ H' = H ∧ nx' = nx := by
  have all : ∀ l, leaveAll P l f H nx = .ok v H' nx' → ∃ cs, resCs P f.tr H l = some cs ∧ v.toV = some (resV cs) ∧ H' = H ∧ nx' = nx := by
    intro l h
    unfold leaveAll at h
    split at h
    · rename_i cs hcs
      cases h
      exact ⟨cs, by rw [← resQs_eq]; exact hcs, FV.toV_ofV _, rfl, rfl⟩
    · cases h
  generalize fn.results.toList = l at h
  match l, h with
  | [], h => exact all _ h
  | [.cell a t], h => exact all _ h
  | a :: b :: r, h => exact all _ (by cases a <;> exact h)
  | [.tmp t], h =>
    have h : noTup ((opdT t).get f) H nx = .ok v H' nx' := h
    obtain ⟨rfl, rfl, g, m, h1, h2⟩ := noTup_ok h
    have ht : f.tr.get t = some (.c g m) := by rw [Fm.get_tr]; exact h1
    exact ⟨[(g, m)], by simp only [resCs, resC, ht], h2, rfl, rfl⟩
theorem leaveD_ok {P : Program} {fn : Func} {f : Fm} {H : Tr AObj} {nx : Nat} {ds : List Nat} {v : FV} {H' : Tr AObj} {nx' : Nat} (h : leaveD ds P (rsOf fn.results.toList) f H nx = .ok v H' nx') : ∃ x, v.toV = some x ∧ leave P fn f.tr H nx ds = some (x, H', nx') := by
  have key : ∀ H1, dropDs ds H = some H1 → leaveR (rsOf fn.results.toList) P f H1 nx = .ok v H' nx' → ∃ x, v.toV = some x ∧ leave P fn f.tr H nx ds = some (x, H', nx') := by
    intro H1 h1 h2
    obtain ⟨cs, g1, g2, rfl, rfl⟩ := leaveR_ok h2
    exact ⟨_, g2, by simp only [leave, h1, g1]⟩
  cases ds with
  | nil => exact key H rfl h
  | cons d l =>
    have h : leaveH (dropDs (d :: l) H) P (rsOf fn.results.toList) f nx = .ok v H' nx' := h
    cases hd : dropDs (d :: l) H with
    | none => rw [hd] at h; cases h
    | some H1 => rw [hd] at h; exact key H1 hd h

theorem qCall_ok {P : Program} (hN : NoNum P) (hmix : P.follows .mixedOrders = true) {Q : QF} {m : Nat} (hQ : QOk P Q m) {f : FuncId} {args : List FV} {H : Tr AObj} {nx : Nat} {v : FV} {H' : Tr AObj} {nx' : Nat} (he : qCall Q P f args H nx = .ok v H' nx') {xs : List V} (hxs : VsOf args = some xs) :
    ∃ x, v.toV = some x ∧ CallOk P f xs H nx x H' nx' := by
  unfold qCall fi at he
  split at he
  · rename_i fn hf
    split at he
    · rename_i c hb
      split at he
      · rename_i hlt
        have he : runB (lenL args) fn.ntmps c (rsOf fn.results.toList) Q P args H nx = .ok v H' nx' := he
        have hlen := VsOf_length hxs
        have hall : ∃ fr : Fm, (∀ t, fr.val t = xs[t]?) ∧ args.length ≤ fn.ntmps ∧ endQ (qc c Q P fn.ntmps fr H nx []) P (rsOf fn.results.toList) = .ok v H' nx' := by
          unfold runB at he
          rw [lenL_eq] at he
          cases h1 : Nat.ble args.length 8 with
          | true =>
            rw [h1] at he
            cases h2 : Nat.ble args.length fn.ntmps with
            | false => rw [h2] at he; cases he
            | true => rw [h2] at he; exact ⟨frOf8 args, frOf8_val hxs (Nat.le_of_ble_eq_true h1), Nat.le_of_ble_eq_true h2, he⟩
          | false =>
            rw [h1] at he
            cases h2 : Nat.ble args.length fn.ntmps with
            | false => rw [h2] at he; cases he
            | true =>
              rw [h2] at he
              cases h3 : Nat.ble args.length 64 with
              | false => rw [h3] at he; cases he
              | true => rw [h3] at he; exact ⟨frOf64 args, frOf64_val hxs (Nat.le_of_ble_eq_true h3), Nat.le_of_ble_eq_true h2, he⟩
        obtain ⟨fr, hfr, hle, hend⟩ := hall
        cases hr : qc c Q P fn.ntmps fr H nx [] with
        | no => rw [hr] at hend; cases hend
        | ok ex f1 H1 nx1 ds =>
          rw [hr] at hend
          have hex : (ex = .normal ∨ ex = .ret) ∧ leaveD ds P (rsOf fn.results.toList) f1 H1 nx1 = .ok v H' nx' := by
            cases ex with
            | normal => exact ⟨.inl rfl, hend⟩
            | ret => exact ⟨.inr rfl, hend⟩
            | exit i => cases hend
            | goto l => cases hend
          obtain ⟨x, hv, hleave⟩ := leaveD_ok hex.2
          obtain ⟨d1, h1⟩ := qc_ok hN hmix hQ (Nat.le_refl fn.ntmps) c hlt _ _ _ _ _ _ _ _ _ hr
          obtain ⟨rfl, d2, h2⟩ := leave_ok hleave
          refine ⟨x, hv, ⟨fn, hf, by rw [hb]; rfl⟩, d1.trans d2, fun η h w cargs p hvl hg => ?_⟩
          have hcl := hvl.length
          have hcalls : CallsIn (fe none) 0 P f ⟨cargs⟩ w (CallPost η h w H.get H'.get nx nx' x) := by
            refine callsIn_of_wp_marks hf hb trivial ?_ rfl
            refine h1 η h w ⟨(⟨cargs⟩ : Array Value) ++ Array.replicate (fn.ntmps - (⟨cargs⟩ : Array Value).size) Go.undef, []⟩ 0 _ ⟨p, ?_, ?_, trivial, hg, trivial⟩ (fun η1 w1 A1 s1 ra1 sz1 dr1 => ?_)
            · have := tmOf_ok xs cargs hvl 0 [] (List.replicate (fn.ntmps - cargs.length) Go.undef) rfl
              have e : (⟨cargs⟩ : Array Value) ++ Array.replicate (fn.ntmps - (⟨cargs⟩ : Array Value).size) Go.undef = ⟨[] ++ cargs ++ List.replicate (fn.ntmps - cargs.length) Go.undef⟩ := by
                apply Array.ext'; simp
              simp only
              rw [e]
              exact this.congr (fun t => by rw [Fm.get_tr, hfr, tmOf_get]; simp)
            · simp; omega
            · have hl := h2 η1 _ w1 A1 0 (CallPost η h w H.get H'.get nx nx' x) (p.next d1 s1) ra1 dr1 (fun cv w' hv s' => ⟨cv, η1, rfl, hv, Stp.trans d1 d2 s1 s'⟩)
              rcases hex.1 with rfl | rfl <;> exact hl
          exact callsIn_wide.1 (show CallsIn Fence.wide 0 P f ⟨cargs⟩ w _ from hcalls)
      · cases he
    · cases he
  · cases he

/-! ### The whole -/
def HookOk (P : Program) (hk : Hook) : Prop := ∀ f args H nx v H' nx', hk f args H nx = .ok v H' nx' → ∀ xs, VsOf args = some xs → ∃ x, v.toV = some x ∧ CallOk P f xs H nx x H' nx'
theorem noHook_ok (P : Program) : HookOk P noHook := fun _ _ _ _ _ _ _ h => by cases h
theorem VsOf_mapFV : ∀ l, VsOf (mapFV l) = some l
  | [] => rfl
  | v :: l => by simp only [mapFV, VsOf, FV.toV_ofV, VsOf_mapFV l]

theorem qCallH_ok {P : Program} (hN : NoNum P) (hmix : P.follows .mixedOrders = true) {hk : Hook} (hh : HookOk P hk) {Q : QF} {m : Nat} (hQ : QOk P Q m) {f : FuncId} {args : List FV} {H : Tr AObj} {nx : Nat} {v : FV} {H' : Tr AObj} {nx' : Nat} (he : qCallH hk Q P f args H nx = .ok v H' nx') {xs : List V} (hxs : VsOf args = some xs) :
    ∃ x, v.toV = some x ∧ CallOk P f xs H nx x H' nx' := by
  unfold qCallH at he
  cases h : hk f args H nx with
  | no => rw [h] at he; exact qCall_ok hN hmix hQ he hxs
  | ok v1 H1 nx1 => rw [h] at he; cases he; exact hh _ _ _ _ _ _ _ h xs hxs

theorem evQ_ok {P : Program} (hN : NoNum P) (hmix : P.follows .mixedOrders = true) {hk : Hook} (hh : HookOk P hk) : ∀ n, QOk P (evQ P hk n) n
  | 0 => by
    refine ⟨⟨⟨?_, ?_⟩, ?_, ?_⟩, ?_⟩
    · intro f args H nx v H' nx' h; cases h
    · intro f args H nx v H' nx' h; cases h
    · intro c nt ro tm H nx ds ex tm' H' nx' ds' h; cases h
    · intro b r nt ro tm H nx ds ex tm' H' nx' ds' h; cases h
    · intro f args H nx v H' nx' h; cases h
  | n + 1 => by
    have ih := evQ_ok hN hmix hh n
    refine ⟨⟨⟨fun f args H nx v H' nx' h => ?_, fun l args H nx v H' nx' h => stepRound_ok ih.f h⟩, fun c nt ro tm H nx ds ex tm' H' nx' ds' h => ?_, fun b r nt ro tm H nx ds ex tm' H' nx' ds' h => stepScope_ok ih.f h⟩, fun f args H nx v H' nx' h xs hxs => qCallH_ok hN hmix hh ih h hxs⟩
    · have h : ofCR (qCallH hk (evQ P hk n) P f (mapFV args) H nx) = some (v, H', nx') := h
      cases hc : qCallH hk (evQ P hk n) P f (mapFV args) H nx with
      | no => rw [hc] at h; cases h
      | ok v1 H1 nx1 =>
        rw [hc] at h
        obtain ⟨x, hx, hok⟩ := qCallH_ok hN hmix hh ih hc (VsOf_mapFV args)
        simp only [ofCR, hx] at h
        cases h
        exact hok
    · have h : stepCodeF (evQ P hk n).f P c nt ro tm H nx ds = some (ex, tm', H', nx', ds') := h
      rw [stepCodeF_eq] at h
      exact stepCode_ok hN hmix ih.f h

end Go.Proofs.YtmnaddlniaklcaaGreatDoor.Ev
