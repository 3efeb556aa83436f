/- How the arguments of the laws read: numbers and bytes. -/
import Derived.Test.YtpbknnkobhjjcaaChecked
import Derived.Test.YtpbknnkobhjjcaaKnown
import Derived.WalkKit
import Derived.ProofKit
import Derived.OpenShut
import Derived.ShutString
namespace Go.Proofs.Ytpbknnkobhjjcaa
open Go.ChangeShapes Go.WideShapes Go.ChangeAt Go.RowKit

theorem own_knob : ownKnob Try.prog.godebug = none := by kernel_rfl
theorem laid_out : laidOutB Try.prog = true := by kernel_rfl

theorem toNat_u8 (m : Nat) (h : m < 256) : (UInt8.ofNat m).toNat = m := by rw [UInt8.toNat_ofNat']; omega
section
variable {H : Type} {enc : TypeId × Value → H} {W : World} {base : Nat}
/-- An int. -/
def IsI (v : Value) (n : Int) : Prop := v = .int .i64 n ∧ Fits n
set_option maxRecDepth 100000 in
theorem open_i {v : Value} {d : DataW H} {p : List MemPlace} (hv : Value.okWide Try.prog W .any base 3 v) (h : DataW.Trod enc Try.prog W 0 (fun _ => true) true 3 v d p) : ∃ n, IsI v n := by
  obtain ⟨n, rfl, rfl, rfl, wf⟩ := open_int Try.underlying3 hv h
  have := bounds_i64 wf
  exact ⟨n, rfl, by unfold Fits; omega⟩
/-- A slice of bytes: what the law is told of it. -/
def IsY (W : World) (v : Value) (l : List UInt8) : Prop := Bytes W v l
theorem bytes_of_ints {w : World} {a : Option Addr} {len cap : Nat} (zs : List Int) (hl : len ≤ cap) (hm : cap ≤ maxLen) (hz : zs.length = cap) (ad : Addr) (ha : a = some ad) (hcell : ∀ i, i < zs.length → w.cell? (ad.add i) = some (.int .u8 (zs.getD i 0)))
    (hwz : ∀ n ∈ zs, (Lit.int .u8 n).wf = true) : ∃ l, Bytes w (.slice a len cap) l := by
  subst ha
  refine ⟨(zs.take len).map fun n => UInt8.ofNat n.toNat, some ad, cap, ?_, ?_, hm, by simp, fun hn => ?_⟩
  · simp; omega
  · simp; omega
  · simp at hn
    have h0 := hcell 0 (by omega)
    obtain ⟨b, off, sp⟩ := ad
    have hsp : sp = none := by
      have hh : (⟨b, off, sp⟩ : Addr).add 0 = ⟨b, off, sp⟩ := by unfold Addr.add; simp
      rw [hh] at h0
      unfold World.cell? at h0
      cases sp with
      | none => rfl
      | some x => simp at h0; split at h0 <;> simp_all
    subst hsp
    refine ⟨b, off, rfl, World.block_lt_of_cell? w _ (by rw [add_lit] at h0; exact h0), fun j u hu => ?_⟩
    simp only [List.map_map, List.getElem?_map, List.getElem?_take] at hu
    split at hu
    · rename_i hj
      have hjz : j < zs.length := by omega
      have h1 := hcell j hjz
      rw [add_lit] at h1
      rw [h1]
      rw [List.getElem?_eq_getElem hjz] at hu
      simp at hu
      rw [← hu]
      have hb := bounds_u8 (hwz _ (List.getElem_mem hjz))
      unfold B
      rw [toNat_u8 _ (by omega)]
      simp [List.getD, List.getElem?_eq_getElem hjz]
      omega
    · simp at hu
set_option maxRecDepth 100000 in
theorem open_y {v : Value} {d : DataW H} {p : List MemPlace} (hv : Value.okWide Try.prog W .any base 28 v) (h : DataW.Trod enc Try.prog W 0 (fun _ => true) true 28 v d p) : ∃ l, IsY W v l := by
  obtain ⟨a1, len1, cap1, rfl⟩ := okWide_slice Try.underlying28 hv
  obtain ⟨fuel, hf⟩ := h
  rcases open_ints Try.underlying28 Try.underlying5 (by kernel_rfl) hf with ⟨hcs, _⟩ | ⟨x, l, c, zs, hcs, _, hl, hm, hz, _, hcell, hwz⟩
  · simp [Value.cells] at hcs
    obtain ⟨rfl, rfl, rfl⟩ := hcs
    exact ⟨[], Reads.nil _ _⟩
  · simp [Value.cells] at hcs
    obtain ⟨rfl, rfl, rfl⟩ := hcs
    exact bytes_of_ints zs hl hm (by simpa using hz) x rfl hcell hwz
end
end Go.Proofs.Ytpbknnkobhjjcaa
