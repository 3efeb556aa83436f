/- Small lemmas on writers, readers and rows. -/
import Derived.Test.YtphpkalbbmlgoaaGreatDoorRdB
namespace Go.Proofs.YtphpkalbbmlgoaaGreatDoor
open Go.RowKit
set_option linter.unusedVariables false
variable {l : List UInt8} {a : Nat} {e : Int}
def WrL (w0 w : World) (p : Nat) (out : Value) (s : WS) : Prop := Wr w p out s ∧ Touch [] w0 w ∧ w0.heap.size ≤ p ∧ ∀ g ∈ blk out, w0.heap.size ≤ g

theorem WrL.done {w0 w w' : World} {p : Nat} {out : Value} {s s' : WS} {r : Ending} (h : WrL w0 w p out s) (hd : WrDone w p out s' r w') : r = .returned (.tuple #[]) ∧ ∃ out', WrL w0 w' p out' s' := by
  obtain ⟨hr, out', h1, h2, h3⟩ := hd
  obtain ⟨_, k2, k3, k4⟩ := h
  refine ⟨hr, out', h1, k2.step h2 (fun m hm => .inr ?_), k3, fun g hg => ?_⟩
  · simp at hm
    rcases hm with rfl | hm
    · exact k3
    · exact k4 m hm
  · rcases h3 g hg with h4 | h4
    · exact k4 g h4
    · exact Nat.le_trans k2.size h4

theorem WrL.new (w : World) : WrL w (w.alloc (.cells #[.int .i64 0, .slice none 0 0] 99)) w.heap.size (.slice none 0 0) (0, []) :=
  ⟨Wr.new w, (Touch.refl _ _).alloc _, Nat.le_refl _, fun g hg => by cases hg⟩

theorem WrL.alloc {w0 w : World} {p : Nat} {out : Value} {s : WS} (h : WrL w0 w p out s) (o : Obj) : WrL w0 (w.alloc o) p out s :=
  ⟨⟨h.1.1.alloc o, fun h0 => ⟨Own.touch0 (h.1.2 h0).1 ((Touch.refl _ _).alloc o), (h.1.2 h0).2⟩⟩, h.2.1.alloc o, h.2.2⟩

theorem Touch.fresh {w w1 w2 : World} {v : Value} (h : Touch [] w w1) (hn : ∀ g ∈ blk v, w.heap.size ≤ g) (h2 : Touch (blk v) w1 w2) : Touch [] w w2 := h.step h2 (fun m hm => .inr (hn m hm))

theorem From.fresh {w w1 : World} {v v2 : Value} (h : Touch [] w w1) (hn : ∀ g ∈ blk v, w.heap.size ≤ g) (h2 : From w1 v v2) : ∀ g ∈ blk v2, w.heap.size ≤ g := fun g hg => by
  rcases h2 g hg with h3 | h3
  · exact hn g h3
  · exact Nat.le_trans h.size h3

theorem pGroup_err (l : List UInt8) : ∀ (k i n a : Nat) (e : Int), pGroup l k i n a = .error e → e ≠ 0
  | 0, i, n, a, e, h => by unfold pGroup at h; cases h; decide
  | k + 1, i, n, a, e, h => by
    unfold pGroup at h
    cases hb : l[a]? with
    | none => rw [hb] at h; cases h; decide
    | some b =>
      rw [hb] at h
      simp only at h
      repeat' split at h
      · cases h; decide
      · cases h; decide
      · cases h
      · exact pGroup_err l k _ _ _ e h

theorem pUint_err (h : pUint l a = .error e) : e ≠ 0 := by
  unfold pUint at h
  cases hg : pGroup l 9 0 0 a with
  | error k => rw [hg] at h; cases h; exact pGroup_err l _ _ _ _ _ hg
  | ok y => rw [hg] at h; cases h

theorem pCount_err {limit : Int} (h : pCount l limit a = .error e) : e ≠ 0 := by
  unfold pCount at h
  cases hg : pGroup l 9 0 0 a with
  | error k => rw [hg] at h; cases h; exact pGroup_err l _ _ _ _ _ hg
  | ok y =>
    rw [hg] at h
    simp only at h
    split at h
    · cases h; decide
    · split at h
      · cases h; decide
      · cases h

theorem pUint_le {l : List UInt8} {a : Nat} {x : Int} {a' : Nat} (h : pUint l a = .ok (x, a')) : x ≤ 9223372036854775807 := by
  unfold pUint at h
  cases hg : pGroup l 9 0 0 a with
  | error e => rw [hg] at h; cases h
  | ok y =>
    rw [hg] at h
    cases h
    have := (pGroup9 hg).1
    show ((y.1 : Nat) : Int) ≤ _
    omega

theorem flat_at {α β : Type} (f : α → List β) (c : Nat) (hc : ∀ x, (f x).length = c) : ∀ (xs : List α) (k j : Nat) (hk : k < xs.length), j < c → (xs.flatMap f)[k * c + j]? = (f xs[k])[j]?
  | [], k, j, hk, _ => absurd hk (by simp)
  | x :: xs, 0, j, hk, hj => by
    rw [List.flatMap_cons, List.getElem?_append_left (by rw [hc]; omega)]
    simp
  | x :: xs, k + 1, j, hk, hj => by
    have h1 : (k + 1) * c + j = (k * c + j) + c := by rw [Nat.add_mul]; omega
    rw [List.flatMap_cons, List.getElem?_append_right (by rw [hc]; omega), hc, h1, Nat.add_sub_cancel, flat_at f c hc xs k j (by simpa using hk) hj]
    simp

theorem Reads.rows {α : Type} {w : World} {v : Value} {xs : List α} {c : Nat} {f : α → List Value} (h : Reads w c v xs.length (xs.flatMap f)) (hc : ∀ x, (f x).length = c) (hn : 0 < xs.length) :
    ∃ b off cap, v = .slice (some ⟨b, off, none⟩) xs.length cap ∧ b < w.heap.size ∧ xs.length ≤ cap ∧ cap ≤ maxLen ∧ ∀ (k j : Nat) (hk : k < xs.length) (u : Value), j < c → (f xs[k])[j]? = some u → w.cell? ⟨b, off + k * c + j, none⟩ = some u := by
  obtain ⟨A, cap, rfl, h1, h2, h3, h4⟩ := h
  obtain ⟨b, off, rfl, hb, hcell⟩ := h4 hn
  refine ⟨b, off, cap, rfl, hb, h1, h2, fun k j hk u hj hu => ?_⟩
  rw [← flat_at f c hc xs k j hk hj] at hu
  have := hcell _ u hu
  rwa [← Nat.add_assoc] at this

theorem put_fits (s : WS) (enc : List UInt8) (h0 : s.1 = 0) (hl : s.2.length + enc.length ≤ 65536) : wPut s enc = (0, s.2 ++ enc) := by unfold wPut; rw [if_pos h0, if_pos hl]

def encN (n : Int) : List UInt8 := grp n.toNat

theorem encN_len (n : Int) : (encN n).length ≤ 10 := grp_len _

theorem wUint_put (bs : List UInt8) (n : Int) (h : 0 ≤ n) (hl : bs.length + 10 ≤ 65536) : wUint (0, bs) n = (0, bs ++ encN n) := by
  unfold wUint
  rw [if_neg (by omega)]
  have := grp_len n.toNat
  exact put_fits _ _ rfl (by show bs.length + (grp n.toNat).length ≤ 65536; omega)

theorem take_flat {α β : Type} {l : List α} {k : Nat} (hk : k < l.length) (f : α → List β) : (l.take (k + 1)).flatMap f = (l.take k).flatMap f ++ f l[k] := by
  rw [List.take_succ_eq_append_getElem hk, List.flatMap_append]
  simp

theorem WrL.base {w w1 W : World} {p : Nat} {out : Value} {s : WS} (h : WrL w1 W p out s) (ht : Touch [] w w1) : WrL w W p out s := ⟨h.1, ht.then0 h.2.1, Nat.le_trans ht.size h.2.2.1, fun g hg => Nat.le_trans ht.size (h.2.2.2 g hg)⟩

def contX {α : Type} (xs : List α) : Except Int (List α × Nat) → Except Int (List α × Nat)
  | .error k => .error k
  | .ok ys => .ok (xs ++ ys.1, ys.2)

theorem contX_nil {α : Type} (r : Except Int (List α × Nat)) : contX [] r = r := by cases r <;> rfl

end Go.Proofs.YtphpkalbbmlgoaaGreatDoor

namespace Go.Proofs.YtphpkalbbmlgoaaGreatDoor
open Go.RowKit
set_option linter.unusedSimpArgs false

structure Wx where
  ar : Int
  st : Int
  vl : Int

def Wx.cells (x : Wx) : List Value := [I x.ar, I x.st, I x.vl]

def Wx.Fit (x : Wx) : Prop := Fits x.ar ∧ Fits x.st ∧ Fits x.vl

def Wishes (w : World) (v : Value) (xs : List Wx) : Prop := Reads w 3 v xs.length (xs.flatMap Wx.cells) ∧ ∀ x ∈ xs, x.Fit

theorem Wishes.touch0 {w w' : World} {v : Value} {xs : List Wx} (h : Wishes w v xs) (ht : Touch [] w w') : Wishes w' v xs := ⟨Reads.touch0 h.1 ht, h.2⟩

theorem Wishes.elem {w : World} {v : Value} {xs : List Wx} (h : Wishes w v xs) {k : Nat} (hk : k < xs.length) {b off cap : Nat} (hv : v = .slice (some ⟨b, off, none⟩) xs.length cap) :
    w.cell? ⟨b, off + k * 3, none⟩ = some (I xs[k].ar) ∧ w.cell? ⟨b, off + k * 3 + 1, none⟩ = some (I xs[k].st) ∧ w.cell? ⟨b, off + k * 3 + 2, none⟩ = some (I xs[k].vl) := by
  obtain ⟨b', off', cap', e, _, _, _, hc⟩ := Reads.rows h.1 (fun _ => rfl) (by omega)
  rw [hv] at e
  injection e with e1 _ _
  injection e1 with e1
  injection e1 with e1 e2
  subst e1 e2
  exact ⟨hc k 0 hk _ (by omega) rfl, hc k 1 hk _ (by omega) rfl, hc k 2 hk _ (by omega) rfl⟩

theorem Wishes.addr {w : World} {v : Value} {xs : List Wx} (h : Wishes w v xs) (hn : 0 < xs.length) : ∃ b off cap, v = .slice (some ⟨b, off, none⟩) xs.length cap ∧ b < w.heap.size ∧ xs.length ≤ cap ∧ cap ≤ 9223372036854775807 := by
  obtain ⟨b, off, cap, e, h1, h2, h3, _⟩ := Reads.rows h.1 (fun _ => rfl) hn
  unfold maxLen at h3
  exact ⟨b, off, cap, e, h1, h2, by omega⟩

def oneW (x : Wx) : Bool := decide (0 ≤ x.ar ∧ x.ar ≤ 63 ∧ 0 ≤ x.st ∧ x.st ≤ 11 ∧ 0 ≤ x.vl ∧ x.vl ≤ 1099511627776)

def ordW (y x : Wx) : Bool := decide (y.ar < x.ar ∨ (y.ar = x.ar ∧ y.st < x.st))

def adjW (xs : List Wx) : Nat → Bool
  | 0 => match xs[0]? with
    | some x => oneW x
    | none => true
  | j + 1 => match xs[j + 1]?, xs[j]? with
    | some x, some y => oneW x && ordW y x
    | _, _ => true

def wishB (xs : List Wx) : Bool := decide (xs.length ≤ 500) && (List.range xs.length).all (adjW xs)

theorem wish_all {xs : List Wx} : wishB xs = true ↔ xs.length ≤ 500 ∧ ∀ k, k < xs.length → adjW xs k = true := by
  unfold wishB
  rw [Bool.and_eq_true, decide_eq_true_iff, List.all_eq_true]
  exact ⟨fun h => ⟨h.1, fun k hk => h.2 k (List.mem_range.2 hk)⟩, fun h => ⟨h.1, fun k hk => h.2 k (List.mem_range.1 hk)⟩⟩

theorem wish_bad {xs : List Wx} {k : Nat} (hk : k < xs.length) (h : adjW xs k = false) : wishB xs = false := by
  cases e : wishB xs with
  | false => rfl
  | true => rw [(wish_all.1 e).2 k hk] at h; cases h

theorem wish_long {xs : List Wx} (h : ¬ xs.length ≤ 500) : wishB xs = false := by
  cases e : wishB xs with
  | false => rfl
  | true => exact absurd (wish_all.1 e).1 h

theorem adjW_zero {xs : List Wx} (h : 0 < xs.length) : adjW xs 0 = oneW xs[0] := by unfold adjW; rw [List.getElem?_eq_getElem h]

theorem adjW_succ {xs : List Wx} {j : Nat} (h : j + 1 < xs.length) : adjW xs (j + 1) = (oneW xs[j + 1] && ordW xs[j] xs[j + 1]) := by
  simp only [adjW, List.getElem?_eq_getElem h, List.getElem?_eq_getElem (show j < xs.length by omega)]

theorem adjW_one {xs : List Wx} {k : Nat} (hk : k < xs.length) (h : adjW xs k = true) : oneW xs[k] = true := by
  cases k with
  | zero => rw [adjW_zero hk] at h; exact h
  | succ j => rw [adjW_succ hk, Bool.and_eq_true] at h; exact h.1

theorem oneW_parts {x : Wx} (h : oneW x = true) : 0 ≤ x.ar ∧ x.ar ≤ 63 ∧ 0 ≤ x.st ∧ x.st ≤ 11 ∧ 0 ≤ x.vl ∧ x.vl ≤ 1099511627776 := of_decide_eq_true h

theorem wish_parts {xs : List Wx} (h : wishB xs = true) : ∀ x ∈ xs, 0 ≤ x.ar ∧ x.ar ≤ 63 ∧ 0 ≤ x.st ∧ x.st ≤ 11 ∧ 0 ≤ x.vl ∧ x.vl ≤ 1099511627776 := fun x hx => by
  obtain ⟨i, hi, rfl⟩ := List.getElem_of_mem hx
  exact oneW_parts (adjW_one hi ((wish_all.1 h).2 i hi))

def WsRel (w : World) (xs : List Wx) (ti : Value) (wr : World) : Prop := ∃ k : Nat, k ≤ xs.length ∧ ti = .int .i64 k ∧ (∀ j, j < k → adjW xs j = true) ∧ Touch [] w wr

theorem WsRel.next {w w' : World} {xs : List Wx} {k : Nat} (hk : k < xs.length) (h : ∀ j, j < k → adjW xs j = true) (hn : adjW xs k = true) (ht : Touch [] w w') : WsRel w xs (.int .i64 ((k : Int) + 1)) w' :=
  ⟨k + 1, hk, by go_num, fun j hj => by rcases Nat.lt_succ_iff_lt_or_eq.1 hj with h1 | rfl; exact h j h1; exact hn, ht⟩

def encW (x : Wx) : List UInt8 := encN x.ar ++ encN x.st ++ encN x.vl

def encWs (xs : List Wx) : List UInt8 := grp xs.length ++ xs.flatMap encW

theorem encW_len (x : Wx) : (encW x).length ≤ 30 := by
  have h1 := encN_len x.ar
  have h2 := encN_len x.st
  have h3 := encN_len x.vl
  unfold encW
  rw [List.length_append, List.length_append]
  omega

theorem encWs_len : ∀ xs : List Wx, (xs.flatMap encW).length ≤ 30 * xs.length
  | [] => by simp
  | x :: xs => by
    have h1 := encW_len x
    have h2 := encWs_len xs
    rw [List.flatMap_cons, List.length_append, List.length_cons]
    omega

def pWish (L : List UInt8) (a : Nat) : Except Int (Wx × Nat) := match pUint L a with
  | .error k => .error k
  | .ok x => match pUint L x.2 with
    | .error k => .error k
    | .ok y => match pUint L y.2 with
      | .error k => .error k
      | .ok z => .ok (⟨x.1, y.1, z.1⟩, z.2)

def pWishes (L : List UInt8) : Nat → Nat → Except Int (List Wx × Nat)
  | 0, a => .ok ([], a)
  | n + 1, a => match pWish L a with
    | .error k => .error k
    | .ok x => match pWishes L n x.2 with
      | .error k => .error k
      | .ok y => .ok (x.1 :: y.1, y.2)

def decW (L : List UInt8) : Int × List Wx := match pCount L 500 0 with
  | .error k => (k, [])
  | .ok c => match pWishes L c.1.toNat c.2 with
    | .error k => (k, [])
    | .ok y => if y.2 < L.length then (5, []) else if wishB y.1 then (0, y.1) else (6, [])

theorem wishes_bad {L : List UInt8} {n a : Nat} {xs : List Wx} {k : Int} (h : pWish L a = .error k) : contX xs (pWishes L (n + 1) a) = .error k := by unfold pWishes; rw [h]; rfl

theorem wishes_step {L : List UInt8} {n a : Nat} {xs : List Wx} {x : Wx × Nat} (h : pWish L a = .ok x) : contX xs (pWishes L (n + 1) a) = contX (xs ++ [x.1]) (pWishes L n x.2) := by
  have e : pWishes L (n + 1) a = match pWishes L n x.2 with
      | .error k => .error k
      | .ok y => .ok (x.1 :: y.1, y.2) := by
    show (match pWish L a with
      | .error k => Except.error k
      | .ok x => match pWishes L n x.2 with
        | .error k => .error k
        | .ok y => .ok (x.1 :: y.1, y.2)) = _
    rw [h]
  rw [e]
  cases pWishes L n x.2 with
  | error k => rfl
  | ok y => simp [contX]

theorem pUint_ok {L : List UInt8} {a : Nat} {x : Int × Nat} (h : pUint L a = .ok x) : 0 ≤ x.1 ∧ x.1 ≤ 9223372036854775807 ∧ x.2 ≤ L.length := by
  refine ⟨?_, pUint_le h, ?_⟩
  · unfold pUint at h
    cases hg : pGroup L 9 0 0 a with
    | error e => rw [hg] at h; cases h
    | ok y => rw [hg] at h; cases h; exact Int.natCast_nonneg _
  · unfold pUint at h
    cases hg : pGroup L 9 0 0 a with
    | error e => rw [hg] at h; cases h
    | ok y => rw [hg] at h; cases h; exact (pGroup9 hg).2.2

theorem read_err {L : List UInt8} {s : Int × Nat} (h : s.1 ≠ 0) : rRead 0 (pUint L) s = (0, s) := by unfold rRead; rw [if_neg h]

theorem read_ok {L : List UInt8} {a : Nat} {x : Int × Nat} (h : pUint L a = .ok x) : rRead 0 (pUint L) (0, a) = (x.1, (0, x.2)) := by unfold rRead; rw [if_pos rfl]; rw [h]

theorem read_bad {L : List UInt8} {a : Nat} {k : Int} (h : pUint L a = .error k) : rRead 0 (pUint L) (0, a) = (0, (k, a)) := by unfold rRead; rw [if_pos rfl]; rw [h]

def rWish (L : List UInt8) (s : Int × Nat) : Wx × (Int × Nat) :=
  (⟨(rRead 0 (pUint L) s).1, (rRead 0 (pUint L) (rRead 0 (pUint L) s).2).1, (rRead 0 (pUint L) (rRead 0 (pUint L) (rRead 0 (pUint L) s).2).2).1⟩, (rRead 0 (pUint L) (rRead 0 (pUint L) (rRead 0 (pUint L) s).2).2).2)

theorem rWish_err {L : List UInt8} {s : Int × Nat} (h : s.1 ≠ 0) : (rWish L s).2 = s := by simp [rWish, read_err h]

theorem rWish_cases (L : List UInt8) (a : Nat) : (∃ k, k ≠ 0 ∧ pWish L a = .error k ∧ (rWish L (0, a)).2.1 = k) ∨ ∃ x b, pWish L a = .ok (x, b) ∧ rWish L (0, a) = (x, (0, b)) := by
  cases h1 : pUint L a with
  | error k =>
    have hk := pUint_err h1
    refine .inl ⟨k, hk, by unfold pWish; rw [h1], ?_⟩
    have e1 := read_bad h1
    have e2 : rRead 0 (pUint L) (k, a) = (0, (k, a)) := read_err hk
    simp [rWish, e1, e2]
  | ok x =>
    cases h2 : pUint L x.2 with
    | error k =>
      have hk := pUint_err h2
      refine .inl ⟨k, hk, by unfold pWish; rw [h1]; simp only [h2], ?_⟩
      have e1 := read_ok h1
      have e2 := read_bad h2
      have e3 : rRead 0 (pUint L) (k, x.2) = (0, (k, x.2)) := read_err hk
      simp [rWish, e1, e2, e3]
    | ok y =>
      cases h3 : pUint L y.2 with
      | error k =>
        have hk := pUint_err h3
        refine .inl ⟨k, hk, by unfold pWish; rw [h1]; simp only [h2, h3], ?_⟩
        have e1 := read_ok h1
        have e2 := read_ok h2
        have e3 := read_bad h3
        simp [rWish, e1, e2, e3]
      | ok z =>
        refine .inr ⟨⟨x.1, y.1, z.1⟩, z.2, by unfold pWish; rw [h1]; simp only [h2, h3], ?_⟩
        have e1 := read_ok h1
        have e2 := read_ok h2
        have e3 := read_ok h3
        simp [rWish, e1, e2, e3]

theorem rRead_fit (L : List UInt8) (s : Int × Nat) : 0 ≤ (rRead 0 (pUint L) s).1 ∧ Fits (rRead 0 (pUint L) s).1 := by
  obtain ⟨e, a⟩ := s
  by_cases h : e = 0
  · subst h
    cases h1 : pUint L a with
    | error k => rw [read_bad h1]; exact ⟨by simp, by unfold Fits; simp⟩
    | ok x => rw [read_ok h1]; have := pUint_ok h1; exact ⟨this.1, by unfold Fits; show _ ∧ x.1 ≤ _; omega⟩
  · rw [read_err (s := (e, a)) h]; exact ⟨by simp, by unfold Fits; simp⟩

theorem rWish_fit (L : List UInt8) (s : Int × Nat) : (rWish L s).1.Fit := ⟨(rRead_fit L _).2, (rRead_fit L _).2, (rRead_fit L _).2⟩

end Go.Proofs.YtphpkalbbmlgoaaGreatDoor
