/- How the arguments of the laws read: lists of reading calls. -/
import Derived.Test.YtpbknnkobhjjcaaOpen2
import Derived.Test.YtpbknnkobhjjcaaOnce
namespace Go.Proofs.Ytpbknnkobhjjcaa
open Go.ChangeShapes Go.WideShapes Go.ChangeAt Go.RowKit Go.Deep
section
variable {H : Type} {enc : TypeId × Value → H} {W : World} {base : Nat}
set_option maxRecDepth 100000 in
theorem open_acts {v : Value} {d : DataW H} {p : List MemPlace} (hv : Value.okWide Try.prog W .any base 60 v) (h : DataW.Trod enc Try.prog W 0 (fun _ => true) true 60 v d p) : ∃ xs, Acts W v xs := by
  obtain ⟨A, len, cap, rfl, h1, h2, hr⟩ := open_rows Try.underlying60 Try.underlying62 (by kernel_rfl) (by kernel_rfl) hv h
  rcases hr with ⟨rfl, rfl⟩ | ⟨ad, rfl, hr⟩
  · exact ⟨[], ⟨none, cap, rfl, h1, h2, rfl, fun h => absurd h (by simp)⟩, by simp⟩
  · obtain ⟨l, hl, hp⟩ := list_of (P := fun i (x : Ax) => W.cell? (ad.add (i * 2 + 0)) = some (B x.kind) ∧ W.cell? (ad.add (i * 2 + 1)) = some (I x.limit) ∧ Fits x.limit) len (fun i hi => by
      obtain ⟨u0, n0, y0, k0, t0⟩ := hr i hi 0 _ rfl
      obtain ⟨u1, n1, y1, k1, t1⟩ := hr i hi 1 _ rfl
      obtain ⟨m0, rfl⟩ := trod_u8 t0
      obtain ⟨m1, rfl, f1⟩ := trod_i t1
      exact ⟨⟨m0, m1⟩, k0, k1, f1⟩)
    subst hl
    refine ⟨l, reads_of_rows Ax.cells 2 (by omega) (fun _ => rfl) l (some ad) cap h1 h2 (fun _ => ⟨ad, rfl, fun k hk j u hj hu => ?_⟩), fun x hx => ?_⟩
    · obtain ⟨a0, a1, _⟩ := hp k hk
      match j, hj, hu with
      | 0, _, hu => cases hu; exact a0
      | 1, _, hu => cases hu; exact a1
    · obtain ⟨i, hi, rfl⟩ := List.getElem_of_mem hx
      exact (hp i hi).2.2
end
end Go.Proofs.Ytpbknnkobhjjcaa
