/- Lists of numbers, of pairs and of triples of numbers, as a call reads them; lists that strictly increase. No program in sight. -/
import Derived.Test.YtpbknnkobhjjcaaDoorOc1
namespace Go.Proofs.YtpbknnkobhjjcaaDoor
open Go.RowKit

def I (n : Int) : Value := .int .i64 n
def Fits (n : Int) : Prop := -9223372036854775808 ≤ n ∧ n ≤ 9223372036854775807
/-- A list of rows of equal length, laid end to end. -/
theorem flat_at {α β : Type} (f : α → List β) (c : Nat) (hc : ∀ x, (f x).length = c) : ∀ (xs : List α) (k j : Nat) (hk : k < xs.length), j < c → (xs.flatMap f)[k * c + j]? = (f xs[k])[j]?
  | [], k, j, hk, _ => absurd hk (by simp)
  | x :: xs, 0, j, hk, hj => by
    rw [List.flatMap_cons, List.getElem?_append_left (by rw [hc]; omega)]
    simp
  | x :: xs, k + 1, j, hk, hj => by
    have h1 : (k + 1) * c + j = (k * c + j) + c := by rw [Nat.add_mul]; omega
    rw [List.flatMap_cons, List.getElem?_append_right (by rw [hc]; omega), hc, h1, Nat.add_sub_cancel, flat_at f c hc xs k j (by simpa using hk) hj]
    simp
/-- The slice v reads as xs, each element by its cells. -/
def Rows_ {α : Type} (c : Nat) (f : α → List Value) (fit : α → Prop) (w : World) (v : Value) (xs : List α) : Prop := Reads w c v xs.length (xs.flatMap f) ∧ ∀ x ∈ xs, fit x
section
variable {α : Type} {c : Nat} {f : α → List Value} {fit : α → Prop} {w w' : World} {v : Value} {xs : List α} {L : List Nat}
theorem Rows_.touch (h : Rows_ c f fit w v xs) (ht : Touch L w w') (hv : ∀ b ∈ rb v, b ∉ L) : Rows_ c f fit w' v xs := ⟨Reads.touch h.1 ht hv, h.2⟩
theorem Rows_.touch0 (h : Rows_ c f fit w v xs) (ht : Touch [] w w') : Rows_ c f fit w' v xs := ⟨Reads.touch0 h.1 ht, h.2⟩
theorem Rows_.form (h : Rows_ c f fit w v xs) : ∃ A cap, v = .slice A xs.length cap := by
  obtain ⟨A, cap, e, -⟩ := h.1
  exact ⟨A, cap, e⟩
/-- The address of a slice that is not empty. -/
theorem Rows_.addr {A : Option Addr} {cap : Nat} (h : Rows_ c f fit w (.slice A xs.length cap) xs) {k : Nat} (hk : k < xs.length) : ∃ b off, A = some ⟨b, off, none⟩ ∧ b < w.heap.size := by
  obtain ⟨A', cap', e, h1, h2, h3, h4⟩ := h.1
  injection e with e1 e2 e3
  subst e1 e3
  obtain ⟨b, off, rfl, hb, hcell⟩ := h4 (by omega)
  exact ⟨b, off, rfl, hb⟩
theorem Rows_.cell {b off cap : Nat} (h : Rows_ c f fit w (.slice (some ⟨b, off, none⟩) xs.length cap) xs) (hc : ∀ x, (f x).length = c) {k : Nat} (hk : k < xs.length) (j : Nat) (hj : j < c) (u : Value) (hu : (f xs[k])[j]? = some u) : w.cell? ⟨b, off + k * c + j, none⟩ = some u := by
  obtain ⟨A', cap', e, h1, h2, h3, h4⟩ := h.1
  injection e with e1 e2 e3
  subst e1 e3
  obtain ⟨b', off', e4, hb, hcell⟩ := h4 (by omega)
  injection e4 with e4
  injection e4 with e5 e6
  subst e5 e6
  rw [← flat_at f c hc xs k j hk hj] at hu
  have := hcell _ u hu
  rwa [← Nat.add_assoc] at this
theorem Rows_.lt (h : Rows_ c f fit w v xs) : ∀ g ∈ rb v, g < w.heap.size := Reads.lt h.1
theorem Rows_.cap {A : Option Addr} {cap : Nat} (h : Rows_ c f fit w (.slice A xs.length cap) xs) : xs.length ≤ cap ∧ cap ≤ 9223372036854775807 := by
  obtain ⟨A', cap', e, h1, h2, -⟩ := h.1
  injection e with e1 e2 e3
  subst e3
  unfold maxLen at h2
  exact ⟨h1, by omega⟩
end
structure Tx where
  a : Int
  b : Int
  c : Int
def Tx.cells (x : Tx) : List Value := [I x.a, I x.b, I x.c]
def Tx.Fit (x : Tx) : Prop := Fits x.a ∧ Fits x.b ∧ Fits x.c
abbrev Trips := Rows_ 3 Tx.cells Tx.Fit
structure Cx where
  a : Int
  b : Int
def Cx.cells (x : Cx) : List Value := [I x.a, I x.b]
def Cx.Fit (x : Cx) : Prop := Fits x.a ∧ Fits x.b
abbrev Pairs := Rows_ 2 Cx.cells Cx.Fit
def icells (n : Int) : List Value := [I n]
abbrev Nums := Rows_ 1 icells Fits
section
variable {w : World} {b off cap : Nat}
theorem Trips.at_ {xs : List Tx} (h : Trips w (.slice (some ⟨b, off, none⟩) xs.length cap) xs) {k : Nat} (hk : k < xs.length) :
    w.cell? ⟨b, off + k * 3, none⟩ = some (.int .i64 xs[k].a) ∧ w.cell? ⟨b, off + k * 3 + 1, none⟩ = some (.int .i64 xs[k].b) ∧ w.cell? ⟨b, off + k * 3 + 1 + 1, none⟩ = some (.int .i64 xs[k].c) :=
  ⟨h.cell (fun _ => rfl) hk 0 (by omega) _ rfl, h.cell (fun _ => rfl) hk 1 (by omega) _ rfl, h.cell (fun _ => rfl) hk 2 (by omega) _ rfl⟩
theorem Pairs.at_ {xs : List Cx} (h : Pairs w (.slice (some ⟨b, off, none⟩) xs.length cap) xs) {k : Nat} (hk : k < xs.length) :
    w.cell? ⟨b, off + k * 2, none⟩ = some (.int .i64 xs[k].a) ∧ w.cell? ⟨b, off + k * 2 + 1, none⟩ = some (.int .i64 xs[k].b) :=
  ⟨h.cell (fun _ => rfl) hk 0 (by omega) _ rfl, h.cell (fun _ => rfl) hk 1 (by omega) _ rfl⟩
theorem Nums.at_ {xs : List Int} (h : Nums w (.slice (some ⟨b, off, none⟩) xs.length cap) xs) {k : Nat} (hk : k < xs.length) :
    w.cell? ⟨b, off + k, none⟩ = some (.int .i64 xs[k]) := by
  have := h.cell (fun _ => rfl) hk 0 (by omega) _ rfl
  simpa [I] using this
end
/-- A list whose keys strictly increase from above a number on, with no bad element. -/
def okList {α : Type} (bad : α → Prop) [DecidablePred bad] (key : α → Int) : Int → List α → Bool
  | _, [] => true
  | last, x :: xs => if key x ≤ last ∨ bad x then false else okList bad key (key x) xs
section
variable {α : Type} {bad : α → Prop} [DecidablePred bad] {key : α → Int} {l : List α} {k : Nat} {last : Int}
theorem ok_end (hk : ¬ k < l.length) : okList bad key last (l.drop k) = true := by rw [List.drop_eq_nil_of_le (by omega)]; rfl
theorem ok_bad (hk : k < l.length) (hb : key l[k] ≤ last ∨ bad l[k]) : okList bad key last (l.drop k) = false := by
  rw [List.drop_eq_getElem_cons hk]
  simp only [okList]
  rw [if_pos hb]
theorem ok_next (hk : k < l.length) (h1 : ¬ key l[k] ≤ last) (hb : ¬ bad l[k]) : okList bad key last (l.drop k) = okList bad key (key l[k]) (l.drop (k + 1)) := by
  rw [List.drop_eq_getElem_cons hk]
  simp only [okList]
  rw [if_neg (fun h => h.elim h1 hb)]
end
def wBad (x : Tx) : Prop := 512 ≤ x.a ∨ x.b < 0 ∨ 2 < x.b ∨ x.c < 0 ∨ 1000000000 < x.c
instance : DecidablePred wBad := fun x => by unfold wBad; infer_instance
def eBad (x : Tx) : Prop := 512 ≤ x.a ∨ x.b < 1 ∨ 3 < x.b ∨ x.c < 1 ∨ 1000000 < x.c
instance : DecidablePred eBad := fun x => by unfold eBad; infer_instance
def sBad (n : Int) : Prop := 512 ≤ n
instance : DecidablePred sBad := fun x => by unfold sBad; infer_instance
def cBad (x : Cx) : Prop := 512 ≤ x.a ∨ x.b < 2 ∨ 51 < x.b
instance : DecidablePred cBad := fun x => by unfold cBad; infer_instance
def wOk (l : List Tx) : Bool := okList wBad Tx.a (-1) l
def eOk (l : List Tx) : Bool := okList eBad Tx.a (-1) l
def sOk (l : List Int) : Bool := okList sBad id (-1) l
def cOk (l : List Cx) : Bool := okList cBad Cx.a (-1) l
end Go.Proofs.YtpbknnkobhjjcaaDoor
