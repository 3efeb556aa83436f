/- How a list of strings reads as an argument. -/
import Derived.Test.YtedpaajpfaoffaaGreatDoorChecked
import Derived.Test.YtedpaajpfaoffaaGreatDoorTbA
import Derived.Test.YtedpaajpfaoffaaGreatDoorSdA
import Derived.WalkKit
import Derived.ProofKit
import Derived.OpenShut
import Derived.ShutString
import Derived.SliceStrings
set_option linter.all false
set_option maxRecDepth 100000
namespace Go.Proofs.YtedpaajpfaoffaaGreatDoor
open Go.ChangeShapes Go.WideShapes Go.ChangeAt Go.RowKit
section
variable {H : Type} {enc : TypeId × Value → H} {W : World} {base : Nat}
theorem strs_of_cells {w : World} {len cap : Nat} (ss : List ByteArray) (hl : len ≤ cap) (hm : cap ≤ maxLen) (hz : ss.length = cap) (ad : Addr) (hcell : ∀ i, i < ss.length → w.cell? (ad.add i) = some (.string (ss.getD i ByteArray.empty))) :
  StrsAt w (.slice (some ad) len cap) ((ss.take len).map fun s => s.data.toList) := by
 have hlen : ((ss.take len).map fun s => s.data.toList).length = len := by simp; omega
 refine ⟨some ad, cap, by rw [hlen], by rw [hlen]; exact hl, hm, by simp, fun hn => ?_⟩
 rw [hlen] at hn
 have h0 := hcell 0 (by omega)
 obtain ⟨b, off, sp⟩ := ad
 have hsp : sp = none := by
  have hh : (⟨b, off, sp⟩ : Addr).add 0 = ⟨b, off, sp⟩ := by unfold Addr.add; simp
  rw [hh] at h0
  unfold World.cell? at h0
  cases sp with
  | none => rfl
  | some x => simp at h0; split at h0 <;> simp_all
 subst hsp
 refine ⟨b, off, rfl, World.block_lt_of_cell? w _ (by rw [add_lit] at h0; exact h0), fun j u hu => ?_⟩
 simp only [List.map_map, List.getElem?_map, List.getElem?_take] at hu
 split at hu
 ·rename_i hj
  have hjz : j < ss.length := by omega
  have h1 := hcell j hjz
  rw [add_lit] at h1
  rw [h1]
  rw [List.getElem?_eq_getElem hjz] at hu
  simp [str] at hu
  rw [← hu]
  simp [List.getD, List.getElem?_eq_getElem hjz]
 ·simp at hu
theorem open_l {v : Value} {d : DataW H} {p : List MemPlace} (hv : Value.okWide Tryz.prog W .any base 39 v) (h : DataW.Trod enc Tryz.prog W 0 (fun _ => true) true 39 v d p) : ∃ l, StrsAt W v l := by
 obtain ⟨a1, len1, cap1, rfl⟩ := okWide_slice Tryz.underlying39 hv
 obtain ⟨fuel, hf⟩ := h
 rcases open_strings Tryz.underlying39 Tryz.underlying9 (by kernel_rfl) hf with ⟨hcs, _⟩ | ⟨x, l, c, ss, hcs, _, hl, hm, hz, _, hcell, _⟩
 ·simp [Value.cells] at hcs
  obtain ⟨rfl, rfl, rfl⟩ := hcs
  exact ⟨[], Reads.nil _ _⟩
 ·simp [Value.cells] at hcs
  obtain ⟨rfl, rfl, rfl⟩ := hcs
  exact ⟨_, strs_of_cells ss hl hm (by simpa using hz) x hcell⟩
end
end Go.Proofs.YtedpaajpfaoffaaGreatDoor
