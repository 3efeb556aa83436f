/- How the arguments of the laws of layer 30 read. -/
import Derived.Test.YtpbknnkobhjjcaaOpen2
import Derived.Test.YtpbknnkobhjjcaaOptLaws
import Derived.Lib.SmallJoins
namespace Go.Proofs.Ytpbknnkobhjjcaa
open Go.ChangeShapes Go.WideShapes Go.ChangeAt Go.RowKit Go.Deep Go.Joins

section
variable {H : Type} {enc : TypeId × Value → H} {P : Program} {w : World} {base : Nat} {spare : Nat → Bool} {held : Bool}
/-- A struct by value, field by field. -/
theorem open_fields {r : Reach} {b0 : Nat} {t : TypeId} {fs : Array Field} {v : Value} {d : DataW H} {p : List MemPlace} (hs : P.underlying t = some (.struct fs)) (hone : oneCellFields P fs = true) (hC : P.cellsOf t = fs.size)
    (hv : Value.okWide P w r b0 t v) (h : DataW.Trod enc P w base spare held t v d p) :
    ∃ cs : Array Value, v = .agg cs ∧ cs.size = fs.size ∧ ∀ (j : Nat) (f : Field), fs[j]? = some f → ∃ (u : Value) (n : Nat) (y : DataW H × List MemPlace), cs[j]? = some u ∧ DataW.trod enc P w base spare held n f.type [u] = some y := by
  obtain ⟨cs, rfl, hsz⟩ := okWide_struct hs hv
  obtain ⟨fuel, hf⟩ := h
  obtain ⟨xs, n, _, _, _, hlen, hg⟩ := DataW.trod_struct hs hf
  refine ⟨cs, rfl, hsz.trans hC, fun j f hj => ?_⟩
  have hjl : j < fs.size := (Array.getElem?_eq_some_iff.1 hj).1
  have hjc : j < cs.size := by rw [hsz, hC]; exact hjl
  obtain ⟨ho, hk⟩ := hone_of hone j f hj
  have h1 := hg j f hj
  rw [ho, hk] at h1
  have hone' : (cs.toList.drop j).take 1 = [cs[j]] := by
    rw [List.drop_eq_getElem_cons (by simpa using hjc)]
    rfl
  have h2 : DataW.trod enc P w base spare held n f.type [cs[j]] = xs[j]? := by
    rw [← hone']
    exact h1
  have hys : xs[j]? = some (xs[j]'(by omega)) := List.getElem?_eq_getElem (by omega)
  exact ⟨cs[j], n, _, Array.getElem?_eq_getElem hjc, h2.trans hys⟩
end
section
variable {H : Type} {enc : TypeId × Value → H} {W : World} {base : Nat}
def IsTg (v : Value) (t : Int) : Prop := v = .agg #[.int .i64 t]
set_option maxRecDepth 100000 in
theorem open_tg {v : Value} {d : DataW H} {p : List MemPlace} (hv : Value.okWide Try.prog W .any base 86 v) (h : DataW.Trod enc Try.prog W 0 (fun _ => true) true 86 v d p) : ∃ t, IsTg v t := by
  obtain ⟨⟨cs⟩, rfl, hsz, hf⟩ := open_fields Try.underlying86 (by kernel_rfl) (by kernel_rfl) hv h
  match cs, hsz with
  | [c0], _ =>
    obtain ⟨u, n, y, hu, ht⟩ := hf 0 _ rfl
    cases hu
    obtain ⟨m, rfl, _⟩ := trod_i ht
    exact ⟨m, rfl⟩
set_option maxRecDepth 100000 in
theorem open_bid {v : Value} {d : DataW H} {p : List MemPlace} (hv : Value.okWide Try.prog W .any base 91 v) (h : DataW.Trod enc Try.prog W 0 (fun _ => true) true 91 v d p) : ∃ x, IsBid W v x := by
  obtain ⟨⟨cs⟩, rfl, hsz, hf⟩ := open_fields Try.underlying91 (by kernel_rfl) (by kernel_rfl) hv h
  match cs, hsz with
  | [c0, c1, c2], _ =>
    obtain ⟨u0, n0, y0, hu0, ht0⟩ := hf 0 _ rfl
    obtain ⟨u1, n1, y1, hu1, ht1⟩ := hf 1 _ rfl
    obtain ⟨u2, n2, y2, hu2, ht2⟩ := hf 2 _ rfl
    cases hu0
    cases hu1
    cases hu2
    obtain ⟨m0, rfl, f0⟩ := trod_i ht0
    obtain ⟨m1, rfl, f1⟩ := trod_i ht1
    obtain ⟨l2, b2⟩ := trod_is ht2
    exact ⟨⟨m0, m1, c2, l2⟩, rfl, f0, f1, b2⟩
set_option maxRecDepth 100000 in
theorem open_bids {v : Value} {d : DataW H} {p : List MemPlace} (hv : Value.okWide Try.prog W .any base 92 v) (h : DataW.Trod enc Try.prog W 0 (fun _ => true) true 92 v d p) : ∃ xs, Bids W v xs := by
  obtain ⟨A, len, cap, rfl, h1, h2, hr⟩ := open_rows Try.underlying92 Try.underlying91 (by kernel_rfl) (by kernel_rfl) hv h
  rcases hr with ⟨rfl, rfl⟩ | ⟨ad, rfl, hr⟩
  · exact ⟨[], ⟨none, cap, rfl, h1, h2, rfl, fun h => absurd h (by simp)⟩, by simp⟩
  · obtain ⟨l, hl, hp⟩ := list_of (P := fun i (x : Bx) => W.cell? (ad.add (i * 3 + 0)) = some (I x.st) ∧ W.cell? (ad.add (i * 3 + 1)) = some (I x.pf) ∧ W.cell? (ad.add (i * 3 + 2)) = some x.fv ∧ x.Ok W) len (fun i hi => by
      obtain ⟨u0, n0, y0, k0, t0⟩ := hr i hi 0 _ rfl
      obtain ⟨u1, n1, y1, k1, t1⟩ := hr i hi 1 _ rfl
      obtain ⟨u2, n2, y2, k2, t2⟩ := hr i hi 2 _ rfl
      obtain ⟨m0, rfl, f0⟩ := trod_i t0
      obtain ⟨m1, rfl, f1⟩ := trod_i t1
      obtain ⟨l2, b2⟩ := trod_is t2
      exact ⟨⟨m0, m1, u2, l2⟩, k0, k1, k2, f0, f1, b2⟩)
    subst hl
    refine ⟨l, reads_of_rows Bx.cells 3 (by omega) (fun _ => rfl) l (some ad) cap h1 h2 (fun _ => ⟨ad, rfl, fun k hk j u hj hu => ?_⟩), fun x hx => ?_⟩
    · obtain ⟨a0, a1, a2, _⟩ := hp k hk
      match j, hj, hu with
      | 0, _, hu => cases hu; exact a0
      | 1, _, hu => cases hu; exact a1
      | 2, _, hu => cases hu; exact a2
    · obtain ⟨i, hi, rfl⟩ := List.getElem_of_mem hx
      exact (hp i hi).2.2.2
def IsL (W : World) (v : Value) (l : List Int) : Prop := Ints W v l
set_option maxRecDepth 100000 in
theorem open_is {v : Value} {d : DataW H} {p : List MemPlace} (hv : Value.okWide Try.prog W .any base 33 v) (h : DataW.Trod enc Try.prog W 0 (fun _ => true) true 33 v d p) : ∃ l, IsL W v l := by
  obtain ⟨a1, len1, cap1, rfl⟩ := okWide_slice Try.underlying33 hv
  obtain ⟨fuel, hf⟩ := h
  exact trod_is (n := fuel) (y := (d, p)) hf
end
end Go.Proofs.Ytpbknnkobhjjcaa
