/- Rows of equal length, laid end to end, as a call reads them. No program in sight. -/
import Derived.Test.YtedpaajpfaoffaaGreatDoorBase
set_option linter.all false
namespace Go.Proofs.YtedpaajpfaoffaaGreatDoor
open Go.RowKit
theorem flat_at {α β : Type} (f : α → List β) (c : Nat) (hc : ∀ x, (f x).length = c) : ∀ (xs : List α) (k j : Nat) (hk : k < xs.length), j < c → (xs.flatMap f)[k * c + j]? = (f xs[k])[j]?
 | [], k, j, hk, _ => absurd hk (by simp)
 | x :: xs, 0, j, hk, hj => by
  rw [List.flatMap_cons, List.getElem?_append_left (by rw [hc]; omega)]
  simp
 | x :: xs, k + 1, j, hk, hj => by
  have h1 : (k + 1) * c + j = (k * c + j) + c := by rw [Nat.add_mul]; omega
  rw [List.flatMap_cons, List.getElem?_append_right (by rw [hc]; omega), hc, h1, Nat.add_sub_cancel, flat_at f c hc xs k j (by simpa using hk) hj]
  simp
def Rows_ {α : Type} (c : Nat) (f : α → List Value) (fit : α → Prop) (w : World) (v : Value) (xs : List α) : Prop := Reads w c v xs.length (xs.flatMap f) ∧ ∀ x ∈ xs, fit x
section
variable {α : Type} {c : Nat} {f : α → List Value} {fit : α → Prop} {w w' : World} {v : Value} {xs : List α} {L : List Nat}
theorem Rows_.touch (h : Rows_ c f fit w v xs) (ht : Touch L w w') (hv : ∀ b ∈ rb v, b ∉ L) : Rows_ c f fit w' v xs := ⟨Reads.touch h.1 ht hv, h.2⟩
theorem Rows_.touch0 (h : Rows_ c f fit w v xs) (ht : Touch [] w w') : Rows_ c f fit w' v xs := ⟨Reads.touch0 h.1 ht, h.2⟩
theorem Rows_.form (h : Rows_ c f fit w v xs) : ∃ A cap, v = .slice A xs.length cap := by
 obtain ⟨A, cap, e, -⟩ := h.1
 exact ⟨A, cap, e⟩
theorem Rows_.addr {A : Option Addr} {cap : Nat} (h : Rows_ c f fit w (.slice A xs.length cap) xs) {k : Nat} (hk : k < xs.length) : ∃ b off, A = some ⟨b, off, none⟩ ∧ b < w.heap.size := by
 obtain ⟨A', cap', e, h1, h2, h3, h4⟩ := h.1
 injection e with e1 e2 e3
 subst e1 e3
 obtain ⟨b, off, rfl, hb, hcell⟩ := h4 (by omega)
 exact ⟨b, off, rfl, hb⟩
theorem Rows_.cell {b off cap : Nat} (h : Rows_ c f fit w (.slice (some ⟨b, off, none⟩) xs.length cap) xs) (hc : ∀ x, (f x).length = c) {k : Nat} (hk : k < xs.length) (j : Nat) (hj : j < c) (u : Value) (hu : (f xs[k])[j]? = some u) : w.cell? ⟨b, off + k * c + j, none⟩ = some u := by
 obtain ⟨A', cap', e, h1, h2, h3, h4⟩ := h.1
 injection e with e1 e2 e3
 subst e1 e3
 obtain ⟨b', off', e4, hb, hcell⟩ := h4 (by omega)
 injection e4 with e4
 injection e4 with e5 e6
 subst e5 e6
 rw [← flat_at f c hc xs k j hk hj] at hu
 have := hcell _ u hu
 rwa [← Nat.add_assoc] at this
theorem Rows_.lt (h : Rows_ c f fit w v xs) : ∀ g ∈ rb v, g < w.heap.size := Reads.lt h.1
theorem Rows_.cap {A : Option Addr} {cap : Nat} (h : Rows_ c f fit w (.slice A xs.length cap) xs) : xs.length ≤ cap ∧ cap ≤ 9223372036854775807 := by
 obtain ⟨A', cap', e, h1, h2, -⟩ := h.1
 injection e with e1 e2 e3
 subst e3
 unfold maxLen at h2
 exact ⟨h1, by omega⟩
end
end Go.Proofs.YtedpaajpfaoffaaGreatDoor
