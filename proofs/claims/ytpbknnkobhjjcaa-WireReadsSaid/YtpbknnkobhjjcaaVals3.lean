/- Which lists of values are too large to be looked at. -/
import Derived.Test.YtpbknnkobhjjcaaVals2
namespace Go.Proofs.Ytpbknnkobhjjcaa
open Go.RowKit

def vBig (x : Vx) : Bool := decide (200 < x.text.length) || decide (50 < x.list.length)
def vLarge (xs : List Vx) : Bool := decide (20 < xs.length) || xs.any vBig
theorem vLarge_small {xs : List Vx} (h : vLarge xs = false) : xs.length ≤ 20 ∧ ∀ x ∈ xs, x.Small := by
  unfold vLarge at h
  rw [Bool.or_eq_false_iff, List.any_eq_false] at h
  refine ⟨by simpa using h.1, fun x hx => ?_⟩
  have := h.2 x hx
  unfold vBig at this
  simp at this
  exact this
/-- The element k of a list of values, for the walk. -/
theorem Vals.elem {w : World} {v : Value} {xs : List Vx} (h : Vals w v xs) {k : Nat} (hk : k < xs.length) {b off cap : Nat} (hv : v = .slice (some ⟨b, off, none⟩) xs.length cap) :
    w.cell? ⟨b, off + k * 4, none⟩ = some (B xs[k].kind) ∧ w.cell? ⟨b, off + k * 4 + 1, none⟩ = some (I xs[k].n) ∧ w.cell? ⟨b, off + k * 4 + 2, none⟩ = some xs[k].tv ∧ w.cell? ⟨b, off + k * 4 + 3, none⟩ = some xs[k].lv := by
  obtain ⟨b', off', cap', e, _, _, _, hc⟩ := Reads.rows h.1 (fun _ => rfl) (by omega)
  rw [hv] at e
  injection e with e1 _ _
  injection e1 with e1
  injection e1 with e1 e2
  subst e1 e2
  exact ⟨hc k 0 hk _ (by omega) rfl, hc k 1 hk _ (by omega) rfl, hc k 2 hk _ (by omega) rfl, hc k 3 hk _ (by omega) rfl⟩
theorem Vals.addr {w : World} {v : Value} {xs : List Vx} (h : Vals w v xs) (hn : 0 < xs.length) : ∃ b off cap, v = .slice (some ⟨b, off, none⟩) xs.length cap ∧ b < w.heap.size ∧ xs.length ≤ cap ∧ cap ≤ 9223372036854775807 := by
  obtain ⟨b, off, cap, e, h1, h2, h3, _⟩ := Reads.rows h.1 (fun _ => rfl) hn
  unfold maxLen at h3
  exact ⟨b, off, cap, e, h1, h2, by omega⟩

def LargeRel (xs : List Vx) (t : Value) : Prop := ∃ k : Nat, k ≤ xs.length ∧ t = .int .i64 k ∧ (xs.take k).any vBig = false
theorem LargeRel.next {xs : List Vx} {k : Nat} (hk : k < xs.length) (h : (xs.take k).any vBig = false) (hb : vBig xs[k] = false) : LargeRel xs (.int .i64 ((k : Int) + 1)) :=
  ⟨k + 1, hk, by go_num, by rw [List.take_succ_eq_append_getElem hk, List.any_append, h]; simpa using hb⟩

set_option maxRecDepth 100000 in
set_option maxHeartbeats 1000000 in
theorem large_any (v : Value) (xs : List Vx) (w : World) (hv : Vals w v xs) :
    Calls Try.prog 18 #[v] w fun r w' => r = .returned (.bool (vLarge xs)) ∧ w = w' := by
  rcases Nat.eq_zero_or_pos xs.length with h0 | hn
  · obtain ⟨A, cap, rfl, _⟩ := id hv.1
    have hx : xs = [] := List.eq_nil_of_length_eq_zero h0
    subst hx
    rw [show vLarge [] = false from rfl]
    clear hv h0
    show Calls _ _ #[.slice A 0 cap] _ _
    go_enter Try.func18, Try.ntmps18
    go_wp2_with fail
    refine wp_loop_rounds 1 ?_
    rw [rounds_succ]
    go_wp2_with fail
    go_ret
    exact ⟨rfl, rfl⟩
  · obtain ⟨b, off, cap, rfl, hb, hc1, hc2⟩ := hv.addr hn
    by_cases h20 : 20 < xs.length
    · have hL : vLarge xs = true := by unfold vLarge; simp [h20]
      rw [hL]
      have h20' : (20 : Int) < (xs.length : Int) := by omega
      clear hL
      go_enter Try.func18, Try.ntmps18
      go_wp2_with fail
      go_ret
      exact ⟨rfl, rfl⟩
    · have hL : vLarge xs = xs.any vBig := by unfold vLarge; simp [h20]
      rw [hL]
      have h20' : ¬ (20 : Int) < (xs.length : Int) := by omega
      have d20 : decide ((20 : Int) < (xs.length : Int)) = false := by simp; omega
      clear hL
      generalize hr : xs.any vBig = res at *
      have HR := Lib.hid hr
      clear hr
      go_enter Try.func18, Try.ntmps18
      go_wp2_with fail
      go_loop [3] (fun t => LargeRel xs t) (fun t => xs.length - (intOf t).toNat)
      case atStart => exact ⟨0, by omega, rfl, by simp⟩
      case round =>
        obtain ⟨k, hk, rfl, hk2⟩ := hrel
        have HK := Lib.hid hk2
        clear hk2
        by_cases hlt : k < xs.length
        · have hlt' : (k : Int) < (xs.length : Int) := by omega
          obtain ⟨-, -, c2, c3⟩ := hv.elem hlt rfl
          obtain ⟨-, hT, hI⟩ := hv.2 xs[k] (List.getElem_mem hlt)
          obtain ⟨A2, cap2, e2, -⟩ := id hT
          obtain ⟨A3, cap3, e3, -⟩ := id hI.1
          rw [e2] at c2
          rw [e3] at c3
          have HB := Lib.hid (show vBig xs[k] = (decide (200 < xs[k].text.length) || decide (50 < xs[k].list.length)) from rfl)
          have HAny : vBig xs[k] = true → xs.any vBig = true := fun h => List.any_eq_true.2 ⟨_, List.getElem_mem hlt, h⟩
          have HA := Lib.hid HAny
          clear hT hI e2 e3 hv HAny
          have HN := Lib.hid (fun hb => LargeRel.next hlt HK.out hb)
          generalize vBig xs[k] = vb at *
          generalize xs[k].text.length = m2 at *
          generalize xs[k].list.length = m3 at *
          by_cases b2 : 200 < m2
          · have b2' : (200 : Int) < (m2 : Int) := by omega
            go_wp2_with fail
            go_ret
            exact ⟨by rw [← HR.out, HA.out (by rw [HB.out]; simp [b2])]; rfl, rfl⟩
          · have b2' : ¬ (200 : Int) < (m2 : Int) := by omega
            by_cases b3 : 50 < m3
            · have b3' : (50 : Int) < (m3 : Int) := by omega
              go_wp2_with fail
              go_ret
              exact ⟨by rw [← HR.out, HA.out (by rw [HB.out]; simp [b3])]; rfl, rfl⟩
            · have b3' : ¬ (50 : Int) < (m3 : Int) := by omega
              go_wp2_with fail
              go_round
              case rel => exact HN.out (by rw [HB.out]; simp [b2, b3])
              case measure => simp [intOf]; omega
        · have hlt' : ¬ (k : Int) < (xs.length : Int) := by omega
          go_wp2_with fail
          go_ret
          have e : xs.take k = xs := List.take_of_length_le (by omega)
          rw [e] at HK
          exact ⟨by rw [← HR.out, HK.out]; rfl, rfl⟩
end Go.Proofs.Ytpbknnkobhjjcaa
