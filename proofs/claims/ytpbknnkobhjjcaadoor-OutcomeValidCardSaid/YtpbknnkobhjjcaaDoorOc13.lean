/- Whether an outcome follows from entrants: the two ways to ask it are one. No program is walked. -/
import Derived.Test.YtpbknnkobhjjcaaDoorOc12
namespace Go.Proofs.YtpbknnkobhjjcaaDoor
open Go.RowKit

def findT (s : Int) : List Tx → Option Tx
  | [] => none
  | x :: xs => if x.a = s then some x else findT s xs
def condW (op : Int) (x w : Tx) : Bool := decide (w.b < x.b) && (decide ((offer x.c op x.b w.b).2 = 0) && decide (w.c ≤ (offer x.c op x.b w.b).1))
def condP (op : Int) (l : List Tx) (w : Tx) : Bool := match findT w.a l with
  | none => false
  | some x => condW op x w
def condQ (A : List Cx) (l : List Tx) (n : Int) : Bool := match findT n l with
  | none => false
  | some x => decide (onB n A = x.b)
def condR (op : Int) (W : List Tx) (X : List Int) (A : List Cx) (x : Tx) : Bool := match findT x.a W with
  | none => decide (x.a ∈ X) && decide (onB x.a A = x.b)
  | some w => condW op x w
theorem find_some {s : Int} {l : List Tx} {x : Tx} (h : findT s l = some x) : x ∈ l ∧ x.a = s := by
  induction l with
  | nil => cases h
  | cons y l ih =>
    simp only [findT] at h
    split at h
    · rename_i hy
      cases h
      exact ⟨by simp, hy⟩
    · have := ih h
      exact ⟨by simp [this.1], this.2⟩
theorem find_none {s : Int} {l : List Tx} (h : findT s l = none) : ∀ x ∈ l, x.a ≠ s := by
  induction l with
  | nil => intro x hx; cases hx
  | cons y l ih =>
    simp only [findT] at h
    split at h
    · cases h
    · rename_i hy
      intro x hx
      rcases List.mem_cons.1 hx with rfl | hx
      · exact hy
      · exact ih h x hx
theorem find_is {s : Int} {l : List Tx} {x : Tx} (hx : x ∈ l) (hs : x.a = s) : ∃ y, findT s l = some y ∧ y ∈ l ∧ y.a = s := by
  cases h : findT s l with
  | none => exact absurd hs (find_none h x hx)
  | some y => exact ⟨y, rfl, find_some h⟩
/-- A list in order has no two elements of one key. -/
theorem ok_above {α : Type} {bad : α → Prop} [DecidablePred bad] {key : α → Int} {l : List α} : ∀ {last : Int}, okList bad key last l = true → ∀ x ∈ l, last < key x := by
  induction l with
  | nil => intro last _ x hx; cases hx
  | cons y l ih =>
    intro last h x hx
    simp only [okList] at h
    split at h
    · cases h
    · rename_i hb
      have h1 : ¬ key y ≤ last := fun e => hb (.inl e)
      rcases List.mem_cons.1 hx with rfl | hx
      · omega
      · have := ih h x hx
        omega
theorem ok_nodup {α : Type} {bad : α → Prop} [DecidablePred bad] {key : α → Int} {l : List α} : ∀ {last : Int}, okList bad key last l = true → (l.map key).Nodup := by
  induction l with
  | nil => intros; simp
  | cons y l ih =>
    intro last h
    simp only [okList] at h
    split at h
    · cases h
    · rw [List.map_cons, List.nodup_cons]
      refine ⟨fun hm => ?_, ih h⟩
      obtain ⟨z, hz, e⟩ := List.mem_map.1 hm
      have := ok_above h z hz
      omega
theorem ok_inj {α : Type} {bad : α → Prop} [DecidablePred bad] {key : α → Int} {l : List α} : ∀ {last : Int}, okList bad key last l = true → ∀ x ∈ l, ∀ y ∈ l, key x = key y → x = y := by
  induction l with
  | nil => intro last _ x hx; cases hx
  | cons z l ih =>
    intro last h x hx y hy e
    simp only [okList] at h
    split at h
    · cases h
    · rcases List.mem_cons.1 hx with hx1 | hx1 <;> rcases List.mem_cons.1 hy with hy1 | hy1
      · rw [hx1, hy1]
      · have := ok_above h y hy1; subst hx1; omega
      · have := ok_above h x hx1; subst hy1; omega
      · exact ih h x hx1 y hy1 e
theorem count_sub {P : List Int} : ∀ {Q : List Int}, P.Nodup → (∀ p ∈ P, p ∈ Q) → Q.length ≤ P.length → ∀ q ∈ Q, q ∈ P := by
  induction P with
  | nil =>
    intro Q _ _ hl q hq
    have : Q = [] := List.eq_nil_of_length_eq_zero (by simpa using hl)
    subst this
    cases hq
  | cons p P ih =>
    intro Q hnd hsub hl q hq
    have hp := hsub p (by simp)
    have hnd' := List.nodup_cons.1 hnd
    by_cases hqp : q = p
    · simp [hqp]
    · have hlen := List.length_erase_of_mem hp
      have hpos : 0 < Q.length := List.length_pos_of_mem hp
      have := ih (Q := Q.erase p) hnd'.2 (fun r hr => (List.mem_erase_of_ne (fun e => hnd'.1 (by rw [← e]; exact hr))).2 (hsub r (by simp [hr]))) (by simp at hl; omega) q ((List.mem_erase_of_ne hqp).2 hq)
      simp [this]
theorem follow_same (o : Ox) (l : List Tx) (op : Int) (hv : validP o = true) (he : eOk l = true) (hc : o.W.length + o.X.length = l.length) : (o.W.all (condP op l) && o.X.all (condQ o.A l)) = l.all (condR op o.W o.X o.A) := by
  obtain ⟨wv, xv, av, W, X, A, cost⟩ := o
  simp only at hc ⊢
  unfold validP at hv
  simp only [Bool.and_eq_true] at hv
  obtain ⟨⟨⟨⟨⟨hw, -⟩, hx⟩, -⟩, -⟩, hgx⟩ := hv
  have hdis : ∀ n ∈ X, ∀ w ∈ W, w.a ≠ n := by
    intro n hn w hwm e
    have h1 := List.all_eq_true.1 hgx n hn
    unfold goodX at h1
    rw [Bool.and_eq_true] at h1
    have h2 := h1.2
    rw [(won_iff W n).2 ⟨w, hwm, e⟩] at h2
    cases h2
  have hnw := ok_nodup hw
  have hnx := ok_nodup hx
  have hne := ok_nodup he
  rw [List.map_id_fun, id] at hnx
  have hnp : (W.map Tx.a ++ X).Nodup := by
    rw [List.nodup_append]
    refine ⟨hnw, hnx, fun p hp q hq e => ?_⟩
    obtain ⟨w, hwm, rfl⟩ := List.mem_map.1 hp
    exact hdis q hq w hwm e
  rw [Bool.eq_iff_iff, Bool.and_eq_true]
  simp only [List.all_eq_true]
  constructor
  · rintro ⟨h1, h2⟩
    have hsub : ∀ p ∈ W.map Tx.a ++ X, p ∈ l.map Tx.a := by
      intro p hp
      rcases List.mem_append.1 hp with hp | hp
      · obtain ⟨w, hwm, rfl⟩ := List.mem_map.1 hp
        have := h1 w hwm
        unfold condP at this
        cases hf : findT w.a l with
        | none => rw [hf] at this; cases this
        | some x => exact List.mem_map.2 ⟨x, (find_some hf).1, (find_some hf).2⟩
      · have := h2 p hp
        unfold condQ at this
        cases hf : findT p l with
        | none => rw [hf] at this; cases this
        | some x => exact List.mem_map.2 ⟨x, (find_some hf).1, (find_some hf).2⟩
    have hback := count_sub hnp hsub (by simp; omega)
    intro x hxm
    unfold condR
    cases hf : findT x.a W with
    | some w =>
      obtain ⟨hwm, hwa⟩ := find_some hf
      have := h1 w hwm
      unfold condP at this
      obtain ⟨y, hy, hym, hya⟩ := find_is hxm hwa.symm
      rw [hy] at this
      have : y = x := ok_inj he y hym x hxm (by omega)
      subst this
      simp only
      assumption
    | none =>
      have hnot := find_none hf
      have hxX : x.a ∈ X := by
        rcases List.mem_append.1 (hback x.a (List.mem_map.2 ⟨x, hxm, rfl⟩)) with hp | hp
        · obtain ⟨w, hwm, e⟩ := List.mem_map.1 hp
          exact absurd e (hnot w hwm)
        · exact hp
      have := h2 x.a hxX
      unfold condQ at this
      obtain ⟨y, hy, hym, hya⟩ := find_is hxm rfl
      rw [hy] at this
      have e : y = x := ok_inj he y hym x hxm hya
      subst e
      simp only
      rw [decide_eq_true hxX, Bool.true_and]
      exact this
  · intro h
    have hsub : ∀ p ∈ l.map Tx.a, p ∈ W.map Tx.a ++ X := by
      intro p hp
      obtain ⟨x, hxm, rfl⟩ := List.mem_map.1 hp
      have := h x hxm
      unfold condR at this
      cases hf : findT x.a W with
      | some w => exact List.mem_append.2 (.inl (List.mem_map.2 ⟨w, (find_some hf).1, (find_some hf).2⟩))
      | none =>
        rw [hf] at this
        simp only [Bool.and_eq_true, decide_eq_true_eq] at this
        exact List.mem_append.2 (.inr this.1)
    have hback := count_sub hne hsub (by simp; omega)
    refine ⟨fun w hwm => ?_, fun n hn => ?_⟩
    · obtain ⟨x, hxm, hxa⟩ := List.mem_map.1 (hback w.a (List.mem_append.2 (.inl (List.mem_map.2 ⟨w, hwm, rfl⟩))))
      unfold condP
      obtain ⟨y, hy, hym, hya⟩ := find_is hxm hxa
      rw [hy]
      have := h y hym
      unfold condR at this
      obtain ⟨z, hz, hzm, hza⟩ := find_is (l := W) hwm hya.symm
      rw [hz] at this
      have e : z = w := ok_inj hw z hzm w hwm (by omega)
      subst e
      exact this
    · obtain ⟨x, hxm, hxa⟩ := List.mem_map.1 (hback n (List.mem_append.2 (.inr hn)))
      unfold condQ
      obtain ⟨y, hy, hym, hya⟩ := find_is hxm hxa
      rw [hy]
      have := h y hym
      unfold condR at this
      cases hf : findT y.a W with
      | some w => exact absurd ((find_some hf).2.trans hya) (hdis n hn w (find_some hf).1)
      | none =>
        rw [hf] at this
        simp only [Bool.and_eq_true, decide_eq_true_eq] at this ⊢
        rw [← hya]
        exact this.2
/-- Entrants as a map. -/
def tval (x : Tx) : Value := .agg #[.int .i64 x.a, .int .i64 x.b, .int .i64 x.c]
def addE (f : Int → Option Value) (x : Tx) : Int → Option Value := fun n => if n = x.a then some (tval x) else f n
def entF (l : List Tx) : Int → Option Value := fun n => (findT n l).map tval
theorem find_low {l : List Tx} {last : Int} (h : okList eBad Tx.a last l = true) (n : Int) (hn : n ≤ last) : findT n l = none := by
  cases hf : findT n l with
  | none => rfl
  | some x =>
    have h1 := find_some hf
    have := ok_above h x h1.1
    omega
theorem addE_all {l : List Tx} : ∀ {last : Int}, okList eBad Tx.a last l = true → ∀ (f : Int → Option Value) (n : Int), (l.foldl addE f) n = match findT n l with | none => f n | some x => some (tval x) := by
  induction l with
  | nil => intros; rfl
  | cons x l ih =>
    intro last h f n
    simp only [okList] at h
    split at h
    · cases h
    · rename_i hb
      rw [List.foldl_cons, ih h (addE f x) n]
      by_cases hx : x.a = n
      · have h0 := find_low h n (by omega)
        simp only [findT, hx, h0, if_true, addE]
      · have hx' : ¬ n = x.a := fun e => hx e.symm
        simp only [findT, hx, if_false, addE, hx']
theorem ents_all {l : List Tx} (h : eOk l = true) : l.foldl addE (fun _ => none) = entF l := by
  funext n
  rw [addE_all h]
  unfold entF
  cases findT n l <;> rfl
/-- The index of a winner, and the winner. -/
theorem find_ix (s : Int) : ∀ (l : List Tx) (k : Nat), (ixFrom s k l = -1 ∧ findT s l = none) ∨ ∃ j x, ixFrom s k l = ((k + j : Nat) : Int) ∧ l[j]? = some x ∧ findT s l = some x
  | [], k => .inl ⟨rfl, rfl⟩
  | x :: l, k => by
    simp only [ixFrom, findT]
    by_cases h : x.a = s
    · rw [if_pos h, if_pos h]
      exact .inr ⟨0, x, rfl, rfl, rfl⟩
    · rw [if_neg h, if_neg h]
      rcases find_ix s l (k + 1) with h1 | ⟨j, y, h1, h2, h3⟩
      · exact .inl h1
      · exact .inr ⟨j + 1, y, by rw [h1]; congr 1; omega, h2, h3⟩
/-- Whether an outcome follows, with the error. -/
def folRes (o : Ox) (l : List Tx) (op : Int) : Bool × Int :=
  if (validP o && goodE l op) = true then (if o.W.length + o.X.length = l.length then (l.all (condR op o.W o.X o.A), 0) else (false, 0)) else (false, 2)
def FolPost (o : Ox) (l : List Tx) (op : Int) (w : World) (r : Ending) (w' : World) : Prop := r = .returned (.tuple #[.bool (folRes o l op).1, .int .i64 (folRes o l op).2]) ∧ Touch [] w w'
end Go.Proofs.YtpbknnkobhjjcaaDoor
