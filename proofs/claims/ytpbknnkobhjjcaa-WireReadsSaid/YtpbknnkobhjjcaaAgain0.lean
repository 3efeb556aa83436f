/- What was written is read again, value by value: plain facts, and the comparison of two lists. -/
import Derived.Test.YtpbknnkobhjjcaaWrites
import Derived.Deep.RegionWith
namespace Go.Proofs.Ytpbknnkobhjjcaa
open Go.RowKit

theorem want_split {xs : List Vx} {k : Nat} (hk : k < xs.length) : (wWant xs xs.length).drop (wWant xs k).length = vForm xs[k] ++ (xs.drop (k + 1)).flatMap vForm := by
  have e : wWant xs xs.length = wWant xs k ++ (vForm xs[k] ++ (xs.drop (k + 1)).flatMap vForm) := by
    unfold wWant
    rw [List.take_length]
    conv => lhs; rw [← List.take_append_drop k xs, List.drop_eq_getElem_cons hk]
    rw [List.flatMap_append, List.flatMap_cons]
  rw [e, List.drop_left]
section
variable {xs : List Vx} {k : Nat} {L : List UInt8} {x : Vx} {a : Nat} {rest : List UInt8}
theorem again0 (h : L.drop a = vEnc x ++ rest) (hk : x.kind.toNat % 6 = 0) (hb : vBad x = false) (hf : Fits x.n) : rRead 0 (pUint L) (0, a) = (x.n, (0, a + (vEnc x).length)) := by
  have hn : 0 ≤ x.n := by
    unfold vBad at hb
    simp [hk] at hb
    exact hb
  have e : vEnc x = grp x.n.toNat := by unfold vEnc; rw [if_pos hk]
  rw [e] at h ⊢
  exact rRead_ok (pUint_grp h hn hf)
theorem again1 (h : L.drop a = vEnc x ++ rest) (hk : x.kind.toNat % 6 = 1) (hf : Fits x.n) : rRead 0 (pInt L) (0, a) = (x.n, (0, a + (vEnc x).length)) := by
  have e : vEnc x = grp (fold x.n) := by unfold vEnc; rw [if_neg (by omega), if_pos hk]
  rw [e] at h ⊢
  exact rRead_ok (pInt_grp h hf)
theorem again2 (h : L.drop a = vEnc x ++ rest) (hk : x.kind.toNat % 6 = 2) : rRead false (pBool L) (0, a) = (x.n != 0, (0, a + (vEnc x).length)) := by
  have e : vEnc x = [if x.n != 0 then 1 else 0] := by unfold vEnc; rw [if_neg (by omega), if_neg (by omega), if_pos hk]
  rw [e] at h ⊢
  exact rRead_ok (pBool_enc h)
theorem again34 (h : L.drop a = vEnc x ++ rest) (hk : x.kind.toNat % 6 = 3 ∨ x.kind.toNat % 6 = 4) (hs : x.Small) : rRead [] (pPart L 200) (0, a) = (x.text, (0, a + (vEnc x).length)) := by
  have e : vEnc x = grp x.text.length ++ x.text := by
    unfold vEnc
    rw [if_neg (by omega), if_neg (by omega), if_neg (by omega)]
    split
    · rfl
    · rw [if_pos (by omega)]
  rw [e] at h ⊢
  rw [List.append_assoc] at h
  have := hs.1
  exact rRead_ok (pPart_grp h (by omega) (by omega))
theorem again5 (h : L.drop a = vEnc x ++ rest) (hk : x.kind.toNat % 6 = 5) (hs : x.Small) (hf : ∀ n ∈ x.list, Fits n) : rRead [] (pInts L 50) (0, a) = (x.list, (0, a + (vEnc x).length)) := by
  have e : vEnc x = grp x.list.length ++ encs x.list := by
    unfold vEnc
    rw [if_neg (by omega), if_neg (by omega), if_neg (by omega), if_neg (by omega), if_neg (by omega)]
  rw [e] at h ⊢
  rw [List.append_assoc] at h
  have := hs.2
  exact rRead_ok (pInts_grp h hf (by omega) (by omega))
end

def eqRel (l m : List Int) (t : Value) : Prop := ∃ k : Nat, k ≤ l.length ∧ t = .int .i64 k ∧ l.take k = m.take k
theorem eqRel.next {l m : List Int} {k : Nat} (h1 : k < l.length) (h2 : k < m.length) (h : l.take k = m.take k) (he : l[k] = m[k]) : eqRel l m (.int .i64 ((k : Int) + 1)) :=
  ⟨k + 1, h1, by go_num, by rw [List.take_succ_eq_append_getElem h1, List.take_succ_eq_append_getElem h2, h, he]⟩
/-- The number k of a list, for the walk. -/
theorem Ints.at {w : World} {v : Value} {l : List Int} (h : Ints w v l) {k : Nat} (hk : k < l.length) : ∃ b off cap, v = .slice (some ⟨b, off, none⟩) l.length cap ∧ w.cell? ⟨b, off + k, none⟩ = some (.int .i64 l[k]) ∧ l.length ≤ cap ∧ cap ≤ 9223372036854775807 := by
  obtain ⟨A, cap, rfl, h1, h2, h3, h4⟩ := h.1
  obtain ⟨b, off, rfl, hb, hc⟩ := h4 (by omega)
  unfold maxLen at h2
  exact ⟨b, off, cap, rfl, hc k _ (by simp [I, hk]), h1, by omega⟩

set_option maxRecDepth 100000 in
set_option maxHeartbeats 1000000 in
theorem equal_any (v u : Value) (l m : List Int) (w : World) (hv : Ints w v l) (hu : Ints w u m) :
    Calls Try.prog 39 #[v, u] w fun r w' => r = .returned (.bool (decide (l = m))) ∧ Touch [] w w' := by
  obtain ⟨A, cap, rfl, -⟩ := id hv.1
  obtain ⟨A', cap', rfl, -⟩ := id hu.1
  by_cases hl : l.length = m.length
  · have d0 : ((l.length : Int) != (m.length : Int)) = false := by rw [hl]; simp
    generalize hres : decide (l = m) = res at *
    have HR := Lib.hid hres
    clear hres
    have HL := Lib.hid hl
    clear hl
    go_enter Try.func39, Try.ntmps39
    go_wp2_with fail
    go_loopw [5] (fun t wr => eqRel l m t ∧ Touch [] w wr) (fun t _ => l.length - (intOf t).toNat)
    case atStart => exact ⟨⟨0, by omega, rfl, by simp⟩, Touch.refl _ _⟩
    case round =>
      obtain ⟨⟨k, hk, rfl, hk2⟩, ht⟩ := hrel
      have HK := Lib.hid hk2
      clear hk2
      by_cases hlt : k < l.length
      · have hlt' : (k : Int) < (l.length : Int) := by omega
        have hlm : k < m.length := by have := HL.out; omega
        have hlm' : (k : Int) < (m.length : Int) := by omega
        obtain ⟨b, off, c, e, hc, hc1, hc2⟩ := (hv.touch0 ht).at hlt
        obtain ⟨b', off', c', e', hc', hc1', hc2'⟩ := (hu.touch0 ht).at hlm
        injection e with e1 _ e2
        injection e' with e1' _ e2'
        subst e1 e2 e1' e2'
        have HN := Lib.hid (fun he => eqRel.next hlt hlm HK.out he)
        have HE : Hid (¬ l[k] = m[k] → res = false) := Lib.hid (fun hne => by
          rw [← HR.out]
          simp
          rintro rfl
          exact hne rfl)
        generalize l[k] = x at *
        generalize m[k] = y at *
        by_cases hxy : x = y
        · have hb : (x != y) = false := by simp [hxy]
          go_wp2_with fail
          go_quiet (fail)
          go_wp2_with fail
          go_roundw
          case rel => exact ⟨HN.out hxy, ht.drewN _⟩
          case measure => simp [intOf]; omega
        · have hb : (x != y) = true := by simp [hxy]
          go_wp2_with fail
          go_quiet (fail)
          go_wp2_with fail
          go_ret
          exact ⟨by rw [HE.out hxy]; rfl, ht.drewN _⟩
      · have hlt' : ¬ (k : Int) < (l.length : Int) := by omega
        go_wp2_with fail
        go_ret
        refine ⟨?_, ht⟩
        have h1 := HK.out
        rw [List.take_of_length_le (by omega), List.take_of_length_le (by have := HL.out; omega)] at h1
        rw [← HR.out, h1]
        simp
  · have d0 : ((l.length : Int) != (m.length : Int)) = true := by rw [bne_iff_ne]; omega
    have hne : decide (l = m) = false := by
      simp
      rintro rfl
      exact hl rfl
    rw [hne]
    go_enter Try.func39, Try.ntmps39
    go_wp2_with fail
    go_ret
    exact ⟨rfl, Touch.refl _ _⟩
end Go.Proofs.Ytpbknnkobhjjcaa
