/- Reading of bids: what lies in memory while a list is decoded. -/
import Derived.Test.YtpbknnkobhjjcaaDec2
namespace Go.Proofs.Ytpbknnkobhjjcaa
open Go.RowKit
set_option linter.unusedSimpArgs false

theorem elem_bid : Elem Try.prog 92 91 3 40 := Elem.mk (z := .agg #[.int .i64 0, .int .i64 0, .slice none 0 0]) Try.underlying92 (by kernel_rfl) rfl (by decide)
theorem Own.apart {w : World} {e1 e2 : TypeId} {s1 s2 n1 n2 : Nat} {v1 v2 : Value} {xs ys : List Value} (h1 : Own w e1 s1 v1 n1 xs) (h2 : Own w e2 s2 v2 n2 ys) (hne : e1 ≠ e2) : ∀ g ∈ blk v1, g ∉ blk v2 := by
  rcases h1.2 with ⟨rfl, _⟩ | ⟨g', cap, cur, rfl, _, hh, _⟩
  · intro g hg; cases hg
  · intro g hg
    have e : g = g' := by simpa [blk] using hg
    subst e
    exact Own.ne_blk h2 (t := e1) (cs := cur) hh (Ne.symm hne)
/-- A bid of the list: its numbers, its fallbacks in a row of their own. -/
def BxOk (W : World) (x : Bx) : Prop := RowI W x.fv x.fb ∧ Fits x.st ∧ Fits x.pf ∧ ∀ n ∈ x.fb, Fits n
theorem BxOk.ok {W : World} {x : Bx} (h : BxOk W x) : x.Ok W := ⟨h.2.1, h.2.2.1, Own.reads h.1, h.2.2.2⟩
/-- A reader, and the list of what has been read. -/
structure DecSt (w : World) (N pr : Nat) (inp : Value) (L : List UInt8) (s : Int × Nat) (tv : Value) (xs : List Bx) (W : World) : Prop where
  rd : Rd W pr inp L s.1 s.2
  own : Own W 91 3 tv xs.length (xs.flatMap Bx.cells)
  fbs : ∀ x ∈ xs, BxOk W x
  touch : Touch [] w W
  lo : w.heap.size ≤ pr
  pl : pr < N
  il : ∀ g ∈ rb inp, g < N
  new : ∀ g ∈ blk tv, N ≤ g
  nz : N ≤ W.heap.size
section
variable {w W W1 W2 : World} {N pr : Nat} {inp : Value} {L : List UInt8} {s s' : Int × Nat} {tv tv2 : Value} {xs : List Bx}
theorem DecSt.read (h : DecSt w N pr inp L s tv xs W) (hr : Rd W1 pr inp L s'.1 s'.2) (ht : Touch [pr] W W1) : DecSt w N pr inp L s' tv xs W1 := by
  have hp : pr ∉ blk tv := fun hm => by have := h.new _ hm; have := h.pl; omega
  refine ⟨hr, Own.touch h.own ht (fun g hg hm => ?_), fun x hx => ⟨Own.touch (h.fbs x hx).1 ht (fun g hg hm => ?_), (h.fbs x hx).2⟩, h.touch.step ht (fun m hm => ?_), h.lo, h.pl, h.il, h.new, Nat.le_trans h.nz ht.size⟩
  · have : g = pr := by simpa using hm
    subst this
    exact hp hg
  · have : g = pr := by simpa using hm
    subst this
    exact Own.ne_blk (h.fbs x hx).1 h.rd.1 (by decide) hg
  · have : m = pr := by simpa using hm
    subst this
    exact .inr h.lo
/-- What is written lies in none of its blocks. -/
theorem DecSt.aside {M : List Nat} (h : DecSt w N pr inp L s tv xs W) (ht : Touch M W W1) (h1 : pr ∉ M) (h2 : ∀ g ∈ rb inp, g ∉ M) (h3 : ∀ g ∈ blk tv, g ∉ M) (h4 : ∀ x ∈ xs, ∀ g ∈ blk x.fv, g ∉ M) (h5 : ∀ m ∈ M, w.heap.size ≤ m) : DecSt w N pr inp L s tv xs W1 :=
  ⟨h.rd.touch ht h1 h2, Own.touch h.own ht h3, fun x hx => ⟨Own.touch (h.fbs x hx).1 ht (h4 x hx), (h.fbs x hx).2⟩, h.touch.step ht (fun m hm => .inr (h5 m hm)), h.lo, h.pl, h.il, h.new, Nat.le_trans h.nz ht.size⟩
theorem DecSt.touch0 (h : DecSt w N pr inp L s tv xs W) (ht : Touch [] W W1) : DecSt w N pr inp L s tv xs W1 := h.aside ht (by simp) (by simp) (by simp) (by simp) (by simp)
/-- One bid more. -/
theorem DecSt.push {x : Bx} (h : DecSt w N pr inp L s tv xs W) (hx : BxOk W x) (ho : Own W2 91 3 tv2 (xs.length + 1) (xs.flatMap Bx.cells ++ x.cells)) (ht : Touch (blk tv) W W2) (hf : From W tv tv2) : DecSt w N pr inp L s tv2 (xs ++ [x]) W2 := by
  have hp : pr ∉ blk tv := fun hm => by have := h.new _ hm; have := h.pl; omega
  refine ⟨h.rd.touch ht hp (fun g hg hm => by have := h.il g hg; have := h.new g hm; omega), ?_, fun y hy => ?_, h.touch.step ht (fun m hm => .inr (by have := h.new m hm; have := h.pl; have := h.lo; omega)), h.lo, h.pl, h.il, fun g hg => ?_, Nat.le_trans h.nz ht.size⟩
  · rw [List.length_append, List.flatMap_append]
    simpa using ho
  · have hk : ∀ z, BxOk W z → BxOk W2 z := fun z hz => ⟨Own.touch hz.1 ht (fun g hg hm => Own.apart h.own hz.1 (by decide) g hm hg), hz.2⟩
    rcases List.mem_append.1 hy with hy | hy
    · exact hk y (h.fbs y hy)
    · rw [List.mem_singleton.1 hy]
      exact hk x hx
  · rcases hf g hg with h' | h'
    · exact h.new g h'
    · exact Nat.le_trans h.nz h'
end
/-- The bid that is being read, in block q. -/
structure InSt (w : World) (N pr : Nat) (inp : Value) (L : List UInt8) (s : Int × Nat) (tv : Value) (xs : List Bx) (q : Nat) (st pf : Int) (fv : Value) (fs : List Int) (W : World) : Prop where
  d : DecSt w N pr inp L s tv xs W
  bk : Blk W q 91 #[.int .i64 st, .int .i64 pf, fv]
  fr : RowI W fv fs
  fn : ∀ g ∈ blk fv, q < g
  xl : ∀ x ∈ xs, ∀ g ∈ blk x.fv, g < q
  tl : ∀ g ∈ blk tv, g < q
  nl : N ≤ q
section
variable {w W W1 W2 : World} {N pr q : Nat} {inp : Value} {L : List UInt8} {s s' : Int × Nat} {tv fv fv2 : Value} {xs : List Bx} {st pf : Int} {fs : List Int}
theorem InSt.new (h : DecSt w N pr inp L s tv xs W) : InSt w N pr inp L s tv xs W.heap.size 0 0 (.slice none 0 0) [] (W.alloc (.cells #[.int .i64 0, .int .i64 0, .slice none 0 0] 91)) :=
  ⟨h.touch0 ((Touch.refl [] W).alloc _), Blk.new W _ _, RowI.nil _, by simp [blk], fun x hx g hg => Own.lt (h.fbs x hx).1 g hg, fun g hg => Own.lt h.own g hg, h.nz⟩
theorem InSt.read (h : InSt w N pr inp L s tv xs q st pf fv fs W) (hr : Rd W1 pr inp L s'.1 s'.2) (ht : Touch [pr] W W1) : InSt w N pr inp L s' tv xs q st pf fv fs W1 := by
  have h1 := h.d.pl
  have h2 := h.nl
  refine ⟨h.d.read hr ht, h.bk.touch ht (by simp; omega), Own.touch h.fr ht (fun g hg hm => ?_), h.fn, h.xl, h.tl, h.nl⟩
  have := h.fn g hg
  simp at hm
  omega
/-- A field is stored. -/
theorem InSt.keepD (h : InSt w N pr inp L s tv xs q st pf fv fs W) (ht : Touch [q] W W1) : DecSt w N pr inp L s tv xs W1 := by
  have h1 := h.d.pl
  have h2 := h.nl
  have h3 := h.d.lo
  refine h.d.aside ht (by simp; omega) (fun g hg hm => ?_) (fun g hg hm => ?_) (fun x hx g hg hm => ?_) (fun m hm => ?_)
  · have := h.d.il g hg; simp at hm; omega
  · have := h.tl g hg; simp at hm; omega
  · have := h.xl x hx g hg; simp at hm; omega
  · simp at hm; omega
theorem InSt.keepR (h : InSt w N pr inp L s tv xs q st pf fv fs W) (ht : Touch [q] W W1) : RowI W1 fv fs := Own.touch h.fr ht (fun g hg hm => by have := h.fn g hg; simp at hm; omega)
theorem InSt.put0 (h : InSt w N pr inp L s tv xs q st pf fv fs W) (n : Int) : InSt w N pr inp L s tv xs q n pf fv fs (W.setCell ⟨q, 0, none⟩ (.int .i64 n)) := by
  have ht : Touch [q] W (W.setCell ⟨q, 0, none⟩ (.int .i64 n)) := (Touch.refl _ _).setCell (.inl (by simp)) _
  exact ⟨h.keepD ht, by simpa using h.bk.set_ 0 (.int .i64 n), h.keepR ht, h.fn, h.xl, h.tl, h.nl⟩
theorem InSt.put1 (h : InSt w N pr inp L s tv xs q st pf fv fs W) (n : Int) : InSt w N pr inp L s tv xs q st n fv fs (W.setCell ⟨q, 1, none⟩ (.int .i64 n)) := by
  have ht : Touch [q] W (W.setCell ⟨q, 1, none⟩ (.int .i64 n)) := (Touch.refl _ _).setCell (.inl (by simp)) _
  exact ⟨h.keepD ht, by simpa using h.bk.set_ 1 (.int .i64 n), h.keepR ht, h.fn, h.xl, h.tl, h.nl⟩
theorem InSt.touch0 (h : InSt w N pr inp L s tv xs q st pf fv fs W) (ht : Touch [] W W1) : InSt w N pr inp L s tv xs q st pf fv fs W1 :=
  ⟨h.d.touch0 ht, h.bk.touch ht (by simp), Own.touch0 h.fr ht, h.fn, h.xl, h.tl, h.nl⟩
/-- A fallback is appended and stored. -/
theorem InSt.app {n : Int} (h : InSt w N pr inp L s tv xs q st pf fv fs W) (ho : RowI W2 fv2 (fs ++ [n])) (ht : Touch (blk fv) W W2) (hf : From W fv fv2) : InSt w N pr inp L s tv xs q st pf fv2 (fs ++ [n]) (W2.setCell ⟨q, 2, none⟩ fv2) := by
  have h1 := h.d.pl
  have h2 := h.nl
  have h3 := h.d.lo
  have hd2 : DecSt w N pr inp L s tv xs W2 := by
    refine h.d.aside ht (fun hm => ?_) (fun g hg hm => ?_) (fun g hg hm => ?_) (fun x hx g hg hm => ?_) (fun m hm => ?_)
    · have := h.fn _ hm; omega
    · have := h.fn _ hm; have := h.d.il g hg; omega
    · have := h.fn _ hm; have := h.tl g hg; omega
    · have := h.fn _ hm; have := h.xl x hx g hg; omega
    · have := h.fn _ hm; omega
  have hb2 : Blk W2 q 91 #[.int .i64 st, .int .i64 pf, fv] := h.bk.touch ht (fun hm => by have := h.fn _ hm; omega)
  have hfn2 : ∀ g ∈ blk fv2, q < g := fun g hg => by
    rcases hf g hg with e | e
    · exact h.fn g e
    · have := h.bk.lt; omega
  have hi2 : InSt w N pr inp L s tv xs q st pf fv2 (fs ++ [n]) W2 → True := fun _ => trivial
  have ht2 : Touch [q] W2 (W2.setCell ⟨q, 2, none⟩ fv2) := (Touch.refl _ _).setCell (.inl (by simp)) _
  refine ⟨?_, by simpa using hb2.set_ 2 fv2, Own.touch ho ht2 (fun g hg hm => by have := hfn2 g hg; simp at hm; omega), hfn2, h.xl, h.tl, h.nl⟩
  refine hd2.aside ht2 (by simp; omega) (fun g hg hm => ?_) (fun g hg hm => ?_) (fun x hx g hg hm => ?_) (fun m hm => ?_)
  · have := h.d.il g hg; simp at hm; omega
  · have := h.tl g hg; simp at hm; omega
  · have := h.xl x hx g hg; simp at hm; omega
  · simp at hm; omega
end
end Go.Proofs.Ytpbknnkobhjjcaa
