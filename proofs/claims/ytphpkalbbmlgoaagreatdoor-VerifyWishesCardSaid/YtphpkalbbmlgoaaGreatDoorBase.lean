/- Frames and rows of memory: which blocks a call may touch; slices that read as lists. No program in sight. -/
import Derived.WalkKit
import Derived.WalkSpells
import Derived.WalkLawsBesides
import Derived.Lib.Hide
import Derived.Maps.AppendAt
import Derived.Deep.AppendLies
import Derived.RegionTactic
import Derived.OwnWalk
import Derived.Deep.QuietTactic
import Derived.BigQuiet
import Derived.KernelRfl
import Derived.Outline
import Derived.Lib.AppendStr
import Derived.IntWalk
import Derived.Deep.RegionHeld3
import Derived.Deep.RegionLaw
namespace Go.Proofs.YtphpkalbbmlgoaaGreatDoor
open Go.RowKit

structure Touch (L : List Nat) (w w' : World) : Prop where
  os : w'.os = w.os
  tape : w'.tape = w.tape
  output : w'.output = w.output
  size : w.heap.size ≤ w'.heap.size
  block : ∀ k, k < w.heap.size → k ∉ L → w'.heap[k]? = w.heap[k]?

def blk : Value → List Nat
  | .slice (some a) _ _ => [a.block]
  | .pointer (some a) => [a.block]
  | .map (some r) => [r]
  | _ => []

def rb : Value → List Nat
  | .slice (some a) (_ + 1) _ => [a.block]
  | _ => []

theorem rb_sub (v : Value) : ∀ g ∈ rb v, g ∈ blk v := by
  intro g hg
  match v, hg with
  | .slice (some a) (_ + 1) _, hg => exact hg

namespace Touch
variable {L M : List Nat} {w w1 w2 w' : World}
theorem refl (L : List Nat) (w : World) : Touch L w w := ⟨rfl, rfl, rfl, Nat.le_refl _, fun _ _ _ => rfl⟩

theorem step (h : Touch L w w1) (k : Touch M w1 w2) (hM : ∀ m ∈ M, m ∈ L ∨ w.heap.size ≤ m) : Touch L w w2 :=
  ⟨k.os.trans h.os, k.tape.trans h.tape, k.output.trans h.output, Nat.le_trans h.size k.size, fun i hi hn =>
    (k.block i (Nat.lt_of_lt_of_le hi h.size) (fun hm => by rcases hM i hm with h1 | h1; exact hn h1; omega)).trans (h.block i hi hn)⟩

theorem trans (h : Touch L w w1) (k : Touch L w1 w2) : Touch L w w2 := h.step k (fun _ hm => .inl hm)

theorem then0 (h : Touch L w w1) (k : Touch [] w1 w2) : Touch L w w2 := h.step k (fun _ hm => by cases hm)

theorem mono (h : Touch L w w') (hL : ∀ m ∈ L, m ∈ M) : Touch M w w' := ⟨h.os, h.tape, h.output, h.size, fun k hk hn => h.block k hk (fun hm => hn (hL k hm))⟩

theorem shed (h : Touch L w w') (hL : ∀ m ∈ L, w.heap.size ≤ m) : Touch [] w w' := ⟨h.os, h.tape, h.output, h.size, fun k hk _ => h.block k hk (fun hm => by have := hL k hm; omega)⟩

theorem drew (h : Touch L w w') : Touch L w w'.drew := ⟨h.os, h.tape, h.output, h.size, h.block⟩

theorem drewN (h : Touch L w w') (n : Nat) : Touch L w (w'.drewN n) := ⟨h.os, h.tape, h.output, h.size, h.block⟩

theorem alloc (h : Touch L w w') (o : Obj) : Touch L w (w'.alloc o) :=
  ⟨h.os, h.tape, h.output, Nat.le_trans h.size (by simp), fun k hk hn => (Below.heap_alloc _ _ _ (Nat.lt_of_lt_of_le hk h.size)).trans (h.block k hk hn)⟩

theorem setCell (h : Touch L w w') {p : Addr} (hp : p.block ∈ L ∨ w.heap.size ≤ p.block) (u : Value) : Touch L w (w'.setCell p u) :=
  ⟨h.os, h.tape, h.output, by simpa [World.setCell] using h.size, fun k hk hn => (Below.heap_setCell _ _ _ _ (fun e => by subst e; rcases hp with hp | hp; exact hn hp; omega)).trans (h.block k hk hn)⟩

theorem of_grown {row : Option Nat} (h : w.grownBy w' row) : Touch row.toList w w' := ⟨h.os, h.tape, h.output, h.size, fun k hk hn => h.block k hk (fun e => hn (by subst e; simp))⟩

theorem below {B : Nat} (h : Touch L w w') (hB : B ≤ w.heap.size) (hL : ∀ m ∈ L, B ≤ m) : Below B w w' := ⟨h.os, h.tape, h.output, h.size, fun k hk => h.block k (by omega) (fun hm => by have := hL k hm; omega)⟩

theorem to_below (h : Touch [] w w') : Below w.heap.size w w' := h.below (Nat.le_refl _) (fun _ hm => by cases hm)

theorem cell (h : Touch L w w') {p : Addr} (hp : p.block < w.heap.size) (hn : p.block ∉ L) : w'.cell? p = w.cell? p := World.cell?_of_block (w := w) (h.block p.block hp hn)

theorem frozen (h : Touch L w w') {p : Addr} (hp : p.block < w.heap.size) (hn : p.block ∉ L) : w'.frozen? p = w.frozen? p := World.frozen?_of_block (w := w) (h.block p.block hp hn)

end Touch

theorem add_lit (b off n : Nat) : (⟨b, off, none⟩ : Addr).add n = ⟨b, off + n, none⟩ := by unfold Addr.add; split <;> simp_all

def Blk (w : World) (g : Nat) (t : TypeId) (cs : Array Value) : Prop := w.heap[g]? = some (.cells cs t (0, 0))

section
variable {w w' : World} {g : Nat} {t : TypeId} {cs : Array Value} {L : List Nat}
theorem Blk.lt (h : Blk w g t cs) : g < w.heap.size := by
  rcases Nat.lt_or_ge g w.heap.size with hlt | hge
  · exact hlt
  · unfold Blk at h; rw [Array.getElem?_eq_none hge] at h; cases h

theorem Blk.cell (h : Blk w g t cs) (i : Nat) : w.cell? ⟨g, i, none⟩ = cs[i]? := cell_of_row w g i cs t (0, 0) h

theorem Blk.frozen (h : Blk w g t cs) (i : Nat) : w.frozen? ⟨g, i, none⟩ = false := by
  unfold Blk at h
  simp [World.frozen?, h]

theorem Blk.new (w : World) (t : TypeId) (cs : Array Value) : Blk (w.alloc (.cells cs t)) w.heap.size t cs := heap_alloc_new w _

theorem Blk.drew (h : Blk w g t cs) : Blk w.drew g t cs := h

theorem Blk.drewN (h : Blk w g t cs) (n : Nat) : Blk (w.drewN n) g t cs := h

theorem Blk.alloc (h : Blk w g t cs) (o : Obj) : Blk (w.alloc o) g t cs := (Below.heap_alloc w o g h.lt).trans h

theorem Blk.set_ (h : Blk w g t cs) (i : Nat) (u : Value) : Blk (w.setCell ⟨g, i, none⟩ u) g t (cs.setIfInBounds i u) := by
  unfold Blk at h ⊢
  simp [World.setCell, Array.getElem?_modify, h]

theorem Blk.touch (h : Blk w g t cs) (ht : Touch L w w') (hg : g ∉ L) : Blk w' g t cs := (ht.block g h.lt hg).trans h

theorem Blk.ne_ {g' : Nat} {t' : TypeId} {cs' : Array Value} (h : Blk w g t cs) (h' : Blk w g' t' cs') (hne : t ≠ t') : g ≠ g' := by
  rintro rfl
  unfold Blk at h h'
  rw [h] at h'
  injection h' with h'
  injection h' with _ ht
  exact hne ht

end

def Reads (w : World) (size : Nat) (v : Value) (n : Nat) (xs : List Value) : Prop :=
  ∃ A cap, v = .slice A n cap ∧ n ≤ cap ∧ cap ≤ maxLen ∧ xs.length = n * size ∧ (0 < n → ∃ b off, A = some ⟨b, off, none⟩ ∧ b < w.heap.size ∧ ∀ j u, xs[j]? = some u → w.cell? ⟨b, off + j, none⟩ = some u)

section
variable {w w' : World} {size n : Nat} {v : Value} {xs : List Value} {L : List Nat}
theorem Reads.nil (w : World) (size : Nat) : Reads w size (.slice none 0 0) 0 [] := ⟨none, 0, rfl, Nat.le_refl _, Nat.zero_le _, by simp, fun h => absurd h (by omega)⟩

theorem Reads.touch (h : Reads w size v n xs) (ht : Touch L w w') (hv : ∀ b ∈ rb v, b ∉ L) : Reads w' size v n xs := by
  obtain ⟨A, cap, rfl, h1, h2, h3, h4⟩ := h
  refine ⟨A, cap, rfl, h1, h2, h3, fun hn => ?_⟩
  obtain ⟨b, off, rfl, hb, hc⟩ := h4 hn
  obtain ⟨m, rfl⟩ : ∃ m, n = m + 1 := ⟨n - 1, by omega⟩
  exact ⟨b, off, rfl, Nat.lt_of_lt_of_le hb ht.size, fun j u hu => (ht.cell (p := ⟨b, off + j, none⟩) hb (hv b (by simp [rb]))).trans (hc j u hu)⟩

theorem Reads.touch0 (h : Reads w size v n xs) (ht : Touch [] w w') : Reads w' size v n xs := h.touch ht (fun _ _ => by simp)

theorem Reads.lt (h : Reads w size v n xs) : ∀ g ∈ rb v, g < w.heap.size := by
  obtain ⟨A, cap, rfl, h1, h2, h3, h4⟩ := h
  intro g hg
  cases n with
  | zero => cases A <;> simp [rb] at hg
  | succ n =>
    obtain ⟨b, off, rfl, hb, hc⟩ := h4 (by omega)
    have : g = b := by simpa [rb] using hg
    omega

theorem Reads.of_own {base : Nat} {e : TypeId} (h : w.ownsRow base e size v n xs) (hm : n ≤ maxLen) : Reads w size v n xs := by
  rcases h.2 with ⟨rfl, rfl⟩ | ⟨g, cap, cur, rfl, hb, hg, hnc, hcm, hcs, htake⟩
  · have : xs = [] := List.eq_nil_of_length_eq_zero (by simpa using h.1)
    subst this
    exact Reads.nil w size
  · refine ⟨some ⟨g, 0, none⟩, cap, rfl, hnc, hcm, h.1, fun _ => ⟨g, 0, rfl, (Array.getElem?_eq_some_iff.1 hg).1, fun j u hu => ?_⟩⟩
    have := h.cells (g := g) rfl j u hu
    rwa [add_lit] at this

end

def Own (w : World) (e : TypeId) (size : Nat) (v : Value) (n : Nat) (xs : List Value) : Prop := w.ownsRow 0 e size v n xs

def From (w : World) (v v' : Value) : Prop := ∀ g ∈ blk v', g ∈ blk v ∨ w.heap.size ≤ g

theorem From.refl (w : World) (v : Value) : From w v v := fun _ h => .inl h

theorem From.trans {w w1 : World} {v v1 v2 : Value} (h : From w v v1) (h1 : From w1 v1 v2) (hs : w.heap.size ≤ w1.heap.size) : From w v v2 := fun g hg => by
  rcases h1 g hg with h2 | h2
  · exact h g h2
  · exact .inr (by omega)

theorem From.none_ {w : World} {n c : Nat} {v' : Value} (h : From w (.slice none n c) v') : ∀ g ∈ blk v', w.heap.size ≤ g := fun g hg => by
  rcases h g hg with h2 | h2
  · cases h2
  · exact h2

theorem Touch.next {w w1 w2 : World} {v v1 : Value} (h : Touch (blk v) w w1) (hf : From w v v1) (h1 : Touch (blk v1) w1 w2) : Touch (blk v) w w2 := h.step h1 hf

section
variable {w w' : World} {e : TypeId} {size n : Nat} {v : Value} {xs : List Value} {L : List Nat}
theorem Own.nil (w : World) (e : TypeId) (size : Nat) : Own w e size (.slice none 0 0) 0 [] := World.ownsRow_nil w 0 e size

theorem Own.len (h : Own w e size v n xs) : xs.length = n * size := h.1

theorem Own.touch (h : Own w e size v n xs) (ht : Touch L w w') (hv : ∀ b ∈ blk v, b ∉ L) : Own w' e size v n xs := by
  refine ⟨h.1, ?_⟩
  rcases h.2 with hn | ⟨g, cap, cur, rfl, hb, hgg, rest⟩
  · exact .inl hn
  · exact .inr ⟨g, cap, cur, rfl, hb, by rw [ht.block g (Array.getElem?_eq_some_iff.1 hgg).1 (hv g (by simp [blk]))]; exact hgg, rest⟩

theorem Own.touch0 (h : Own w e size v n xs) (ht : Touch [] w w') : Own w' e size v n xs := h.touch ht (fun _ _ => by simp)

theorem Own.lt (h : Own w e size v n xs) : ∀ g ∈ blk v, g < w.heap.size := by
  rcases h.2 with ⟨rfl, _⟩ | ⟨g', cap, cur, rfl, _, hh, _⟩
  · intro g hg; cases hg
  · intro g hg
    have : g = g' := by simpa [blk] using hg
    subst this
    exact (Array.getElem?_eq_some_iff.1 hh).1

theorem Own.ne_blk (h : Own w e size v n xs) {g : Nat} {t : TypeId} {cs : Array Value} (hg : Blk w g t cs) (hne : e ≠ t) : g ∉ blk v := by
  rcases h.2 with ⟨rfl, _⟩ | ⟨g', cap, cur, rfl, _, hh, _⟩
  · simp [blk]
  · intro he
    have : g = g' := by simpa [blk] using he
    subst this
    exact Blk.ne_ (t := e) hh hg hne rfl

theorem Own.form (h : Own w e size v n xs) : ∃ A cap, v = .slice A n cap := by
  rcases h.2 with ⟨rfl, rfl⟩ | ⟨g, cap, cur, rfl, _⟩
  · exact ⟨_, _, rfl⟩
  · exact ⟨_, _, rfl⟩

theorem Own.le (h : Own w e size v n xs) : n ≤ maxLen := by
  rcases h.2 with ⟨rfl, rfl⟩ | ⟨g, cap, cur, rfl, _, _, h1, h2, _⟩
  · simp [maxLen]
  · omega

theorem Own.reads (h : Own w e size v n xs) : Reads w size v n xs := Reads.of_own h h.le

theorem Own.blk_eq (h : Own w e size v n xs) : v.ownBlock.toList = blk v := by
  obtain ⟨A, cap, rfl⟩ := h.form
  cases A <;> rfl

theorem Own.touch_of (h : Own w e size v n xs) (hg : w.grownBy w' v.ownBlock) : Touch (blk v) w w' := by
  have := Touch.of_grown hg
  rwa [h.blk_eq] at this

theorem Own.from_of {w1 : World} {e1 : TypeId} {size1 n1 : Nat} {xs1 : List Value} {v' : Value} (h : Own w e size v n xs) (h' : Own w1 e1 size1 v' n1 xs1) (hf : v'.ownBlock = v.ownBlock ∨ ∃ g, v'.ownBlock = some g ∧ w.heap.size ≤ g) : From w v v' := by
  intro g hg
  rw [← h'.blk_eq] at hg
  rcases hf with hf | ⟨g', hf, hl⟩
  · rw [hf, h.blk_eq] at hg; exact .inl hg
  · rw [hf] at hg
    have : g = g' := by simpa using hg
    subst this
    exact .inr hl

end

def Elem (P : Program) (t e : TypeId) (size bytes : Nat) : Prop :=
  P.underlying t = some (.slice e) ∧ ∃ i z, P.info? e = some i ∧ i.zero = some z ∧ i.size = size ∧ i.bytes = bytes ∧ z.cells.size = size ∧ 0 < size

theorem Elem.mk {P : Program} {t e : TypeId} {size bytes : Nat} {z : Value} (ht : P.underlying t = some (.slice e)) (hi : (P.info? e).map (fun i => (i.zero, i.size, i.bytes)) = some (some z, size, bytes)) (hz : z.cells.size = size) (hs : 0 < size) : Elem P t e size bytes := by
  obtain ⟨i0, hi0, hz0, hz1, hz2⟩ := info_parts hi
  exact ⟨ht, i0, z, hi0, hz0, hz1, hz2, hz, hs⟩

section
variable {P : Program} {w : World}

theorem app_new {ops : Array Oper} {rest : List Oper} {o : Oper} {a : Act} {Q : Exit → Act → World → Prop} {t e : TypeId} {size bytes : Nat} {s x : Operand} {v : Value} {n : Nat} {xs : List Value} (he : Elem P t e size bytes)
    (hown : Own w e size v n xs) (news : List Value) (m c : Nat) (hb : (n + m) * bytes ≤ 140737488355328) (h63 : n + m ≤ maxLen)
    (h : ∀ v' w', Own w' e size v' (n + m) (xs ++ news) → Touch (blk v) w w' → From w v v' → wpList P ops Q rest (a.put o.dst v') w')
    (hgd : o.guard = none := by rfl) (ho : o.op = .call { callee := .builtin .append, args := #[s, x], argTypes := #[t, t] } := by rfl)
    (hs : a.eval s = v := by rfl) (hx : a.eval x = .slice (some ⟨w.heap.size, 0, none⟩) m c := by rfl) (hl : news.length = m * size := by rfl) (h1 : ∀ u ∈ news, u.oneCell' = true := by simp [Value.oneCell']) :
    wpList P ops Q (o :: rest) a (w.alloc (.cells news.toArray e)) := by
  obtain ⟨ht, i, z, hi, hz, hsz, hby, hzs, hpos⟩ := he
  have hblk : (w.alloc (.cells news.toArray e)).heap[w.heap.size]? = some (.cells news.toArray e (0, 0)) := heap_alloc_new w _
  refine wpList_append_own_at (P := P) _ hgd s x t ho 0 e i z size bytes ht hi hz hsz hby hzs hpos v n xs hs (World.ownsRow.alloc hown _) ⟨w.heap.size, 0, none⟩ m c news hx hl ?_ h1 h63 hb (Nat.zero_le _) ?_
  · intro j u hu
    exact World.news_of_block hblk j u (by simpa using hu)
  · intro v' w' h2 h3 _ h5
    refine h v' w' h2 (hown.touch_of ?_) (hown.from_of h2 ?_)
    · have := h3.size
      simp at this
      exact ⟨h3.os, h3.tape, h3.output, by omega, fun k hk hne => (h3.block k (by simp; omega) hne).trans (Below.heap_alloc w _ k hk)⟩
    · rcases h5 with h5 | h5
      · exact .inl h5
      · exact .inr ⟨_, h5, by simp⟩

theorem run_append_of_nil (t ty e : TypeId) (i : TypeInfo) (size : Nat) (ht : P.underlying t = some (.slice e)) (hi : P.info? e = some i)
    (v : Value) (n : Nat) (xs : List Value) (hown : Own w e size v n xs) (A : Option Addr) (c : Nat) : (Builtin.append_ #[t, t] ty #[v, .slice A 0 c]).run P w = .ok v w := by
  rcases hown.2 with ⟨rfl, rfl⟩ | ⟨g, cap, cur, rfl, _, _, hnc, _⟩
  · cases A <;> simp [Builtin.append_, run_underlying ht, sizeOf, typeInfo, hi, Builtin.lenOf, Builtin.firstCells, loadCells, loadCellsFrom]
  · cases A <;> simp [Builtin.append_, run_underlying ht, sizeOf, typeInfo, hi, Builtin.lenOf, Builtin.firstCells, hnc, storeCells, loadCells, loadCellsFrom]

theorem run_append_reads {t ty e : TypeId} {size bytes : Nat} (he : Elem P t e size bytes) (v : Value) (n : Nat) (xs : List Value) (hown : Own w e size v n xs)
    (y : Value) (m : Nat) (news : List Value) (hr : Reads w size y m news) (h1 : ∀ u ∈ news, u.oneCell' = true) (hb : (n + m) * bytes ≤ 140737488355328) (h63 : n + m ≤ maxLen) :
    ∃ v' w', (Builtin.append_ #[t, t] ty #[v, y]).run P w = .ok v' w' ∧ Own w' e size v' (n + m) (xs ++ news) ∧ Touch (blk v) w w' ∧ From w v v' := by
  obtain ⟨ht, i, z, hi, hz, hsz, hby, hzs, hpos⟩ := he
  obtain ⟨A, cap, rfl, hmc, hcm, hlen, hcells⟩ := hr
  rcases Nat.eq_zero_or_pos m with rfl | hm
  · have hn : news = [] := List.eq_nil_of_length_eq_zero (by simpa using hlen)
    subst hn
    exact ⟨v, w, run_append_of_nil t ty e i size ht hi v n xs hown A cap, by simpa using hown, Touch.refl _ _, From.refl _ _⟩
  · obtain ⟨b, off, rfl, hlt, hc⟩ := hcells hm
    obtain ⟨v', w', hrun, h2, h3, _, h5⟩ := run_append_own_at (P := P) w 0 t ty e i z size bytes ht hi hz hsz hby hzs hpos v n xs hown ⟨b, off, none⟩ m cap news hlen (fun j u hu => by rw [add_lit]; exact hc j u hu) h1 h63 hb (Nat.zero_le _)
    exact ⟨v', w', hrun, h2, hown.touch_of h3, hown.from_of h2 (by rcases h5 with h5 | h5; exact .inl h5; exact .inr ⟨_, h5, Nat.le_refl _⟩)⟩

theorem wp_app_reads {o : Oper} {a : Act} {K : Act → World → Prop} {Q : Exit → Act → World → Prop} {t e : TypeId} {size bytes : Nat} (he : Elem P t e size bytes) (s x : Operand)
    (ho : o.op = .call { callee := .builtin .append, args := #[s, x], argTypes := #[t, t] })
    (v : Value) (n : Nat) (xs : List Value) (hs : a.eval s = v) (hown : Own w e size v n xs) (y : Value) (m : Nat) (news : List Value)
    (hx : a.eval x = y) (hr : Reads w size y m news) (h1 : ∀ u ∈ news, u.oneCell' = true) (hb : (n + m) * bytes ≤ 140737488355328) (h63 : n + m ≤ maxLen)
    (h : ∀ v' w', Own w' e size v' (n + m) (xs ++ news) → Touch (blk v) w w' → From w v v' → K (a.put o.dst v') w') : o.wp P a w K Q := by
  obtain ⟨v', w', hrun, h2, h3, h4⟩ := run_append_reads (ty := o.type) he v n xs hown y m news hr h1 hb h63
  unfold Oper.wp execOp
  simp only [ho, resolve, invoke, builtin, Sem.run_bind, Sem.run_pure, Result.andThen_ok, List.map_toArray, List.map_cons, List.map_nil, hs, hx, hrun]
  exact h v' w' h2 h3 h4

theorem app_reads {ops : Array Oper} {rest : List Oper} {o : Oper} {a : Act} {Q : Exit → Act → World → Prop} {t e : TypeId} {size bytes : Nat} {s x : Operand} {v : Value} {n : Nat} {xs : List Value} {y : Value} {m : Nat} {news : List Value} (he : Elem P t e size bytes)
    (hown : Own w e size v n xs) (hr : Reads w size y m news) (h1 : ∀ u ∈ news, u.oneCell' = true) (hb : (n + m) * bytes ≤ 140737488355328) (h63 : n + m ≤ maxLen)
    (h : ∀ v' w', Own w' e size v' (n + m) (xs ++ news) → Touch (blk v) w w' → From w v v' → wpList P ops Q rest (a.put o.dst v') w')
    (hgd : o.guard = none := by rfl) (ho : o.op = .call { callee := .builtin .append, args := #[s, x], argTypes := #[t, t] } := by rfl)
    (hs : a.eval s = v := by rfl) (hx : a.eval x = y := by rfl) :
    wpList P ops Q (o :: rest) a w :=
  wpList_plain hgd fun _ hK => wp_app_reads he s x ho v n xs hs hown y m news hx hr h1 hb h63 fun v' w' h2 h3 h4 => hK _ _ (h v' w' h2 h3 h4)

end

end Go.Proofs.YtphpkalbbmlgoaaGreatDoor
