/- Closures of functions by a table of what leads to what. -/
import Derived.Test.YtphpkalbbmlgoaaGreatDoorRows
import Derived.KernelRfl
import Derived.JoinedOf
namespace Go.Proofs.YtphpkalbbmlgoaaGreatDoor
open Go

def leadF (P : Program) (g : Nat) : List FuncId := (P.funcs[g]?).elim [] P.leadsTo

def globF (P : Program) (g : Nat) : List Nat := ((P.funcs[g]?).bind (·.body)).elim [] Code.globalsNamed

def rowOk (P : Program) (x : Nat × List Nat × List Nat) : Bool := leadF P x.1 == x.2.1 && globF P x.1 == x.2.2

theorem rowOk_at {P : Program} {T : List (Nat × List Nat × List Nat)} (h : T.all (rowOk P) = true) {g : Nat} {l m : List Nat} (hm : (g, l, m) ∈ T) : leadF P g = l ∧ globF P g = m := by
  have h1 := List.all_eq_true.1 h _ hm
  unfold rowOk at h1
  rw [Bool.and_eq_true] at h1
  exact ⟨by simpa using h1.1, by simpa using h1.2⟩

def closeA (A : List (List Nat)) : Nat → List Nat → List Nat → Option (List Nat)
  | _, [], seen => some seen.reverse
  | 0, _ :: _, _ => none
  | k + 1, f :: todo, seen => if seen.contains f then closeA A k todo seen else closeA A k (A.getD f [] ++ todo) (f :: seen)

theorem closeA_ok {P : Program} {A : List (List Nat)} (hA : ∀ g, leadF P g = A.getD g []) : ∀ (k : Nat) (todo seen l : List Nat), closeA A k todo seen = some l → ∀ m, k ≤ m → P.closureVia m todo seen = l
  | k, [], seen, l, h, m, _ => by
    have e : seen.reverse = l := by cases k <;> exact Option.some.inj h
    cases m <;> exact e
  | 0, f :: todo, seen, l, h, m, _ => by cases h
  | k + 1, f :: todo, seen, l, h, m, hm => by
    obtain ⟨m', rfl⟩ : ∃ m', m = m' + 1 := ⟨m - 1, by omega⟩
    unfold closeA at h
    show (if seen.contains f then P.closureVia m' todo seen else P.closureVia m' ((P.funcs[f]?).elim [] P.leadsTo ++ todo) (f :: seen)) = l
    by_cases hs : seen.contains f = true
    · rw [if_pos hs] at h ⊢
      exact closeA_ok hA k todo seen l h m' (by omega)
    · rw [if_neg hs] at h ⊢
      rw [show (P.funcs[f]?).elim [] P.leadsTo = A.getD f [] from hA f]
      exact closeA_ok hA k _ _ l h m' (by omega)

theorem sum_A {P : Program} {A : List (List Nat)} (hA : ∀ g, leadF P g = A.getD g []) : ∀ (l : List Func) (a : Nat), (∀ (i : Nat) (x : Func), l[i]? = some x → P.funcs[a + i]? = some x) → (l.map fun g => (P.leadsTo g).length + 1).sum = ((List.range' a l.length).map fun i => (A.getD i []).length + 1).sum
  | [], a, _ => by simp
  | x :: l, a, h => by
    have h0 := h 0 x rfl
    have h1 := sum_A hA l (a + 1) (fun i y hy => by rw [show a + 1 + i = a + (i + 1) by omega]; exact h (i + 1) y hy)
    have h2 : P.leadsTo x = A.getD a [] := by
      rw [← hA a]
      unfold leadF
      rw [show P.funcs[a]? = some x from h0]
      rfl
    rw [List.map_cons, List.sum_cons, List.length_cons, List.range'_succ, List.map_cons, List.sum_cons, h1, h2]

theorem closure_of {P : Program} {A : List (List Nat)} (hA : ∀ g, leadF P g = A.getD g []) {k f : Nat} {l : List Nat} (h : closeA A k [f] [] = some l) (hk : k ≤ 1 + ((List.range' 0 P.funcs.toList.length).map fun i => (A.getD i []).length + 1).sum) : P.closure f = l := by
  unfold Program.closure
  refine closeA_ok hA k _ _ l h _ ?_
  rw [sum_A hA P.funcs.toList 0 (fun i x hx => by rw [Nat.zero_add, ← Array.getElem?_toList]; exact hx)]
  exact hk

end Go.Proofs.YtphpkalbbmlgoaaGreatDoor
