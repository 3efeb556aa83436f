/- Part of ReportRatio. -/
import Derived.Test.YtedpaajpfaoffaaGreatDoorChecked
import Derived.Test.YtedpaajpfaoffaaGreatDoorRmA
import Derived.Test.YtedpaajpfaoffaaGreatDoorMl3
import Derived.WalkKit
import Derived.ProofKit
import Derived.OpenShut
import Derived.Deep.Slices
import Derived.Deep.Fields
import Derived.ChangeSame
import Derived.Lib.SmallJoins
set_option maxRecDepth 100000
namespace Go.Proofs.YtedpaajpfaoffaaGreatDoor
open Go.ChangeShapes Go.WideShapes Go.ChangeAt Go.RowKit Go.Deep Go.Joins
theorem cell_plain {w : World} {b off : Nat} {sp : Option Nat} {u : Value} (h : w.cell? ⟨b, off, sp⟩ = some u) : sp = none := by
  unfold World.cell? at h
  cases sp with
  | none => rfl
  | some x => simp at h; split at h <;> simp_all
theorem dgs_of {w : World} {len cap : Nat} (zs : List Int) (hl : len ≤ cap) (hm : cap ≤ maxLen) (hz : zs.length = cap) (ad : Addr) (hcell : ∀ i, i < zs.length → w.cell? (ad.add i) = some (.int .u8 (zs.getD i 0)))
    (hwz : ∀ n ∈ zs, (Lit.int .u8 n).wf = true) : ∃ l, Dgs w (.slice (some ad) len cap) l := by
  have hlen : ((zs.take len).map Int.toNat).length = len := by rw [List.length_map, List.length_take]; omega
  have hb : ∀ n ∈ zs, 0 ≤ n ∧ n ≤ 255 := fun n hn => bounds_u8 (hwz n hn)
  refine ⟨(zs.take len).map Int.toNat, ⟨some ad, cap, by rw [hlen], by rw [hlen]; exact hl, hm, by rw [flat_u8]; simp, fun hn => ?_⟩, fun x hx => ?_⟩
  · rw [hlen] at hn
    obtain ⟨b, off, sp⟩ := ad
    have h0 := hcell 0 (by omega)
    have hz0 : (⟨b, off, sp⟩ : Addr).add 0 = ⟨b, off, sp⟩ := by unfold Addr.add; simp
    rw [hz0] at h0
    have hsp := cell_plain h0
    subst hsp
    refine ⟨b, off, rfl, World.block_lt_of_cell? w _ h0, fun j u hu => ?_⟩
    rw [flat_u8, List.map_map] at hu
    obtain ⟨hj, rfl⟩ := List.getElem?_eq_some_iff.1 hu
    simp only [List.length_map, List.length_take] at hj
    have h1 := hcell j (by omega)
    rw [add_lit] at h1
    rw [h1]
    have hjz : j < zs.length := by omega
    have h2 := hb zs[j] (List.getElem_mem hjz)
    simp only [List.getD, List.getElem?_eq_getElem hjz, Option.getD_some, List.getElem_map, List.getElem_take, Function.comp, u8v]
    congr 2
    omega
  · obtain ⟨n, hn, rfl⟩ := List.mem_map.1 hx
    have := hb n (List.mem_of_mem_take hn)
    omega
section
variable {H : Type} {enc : TypeId × Value → H} {W : World} {base : Nat}
theorem trod_dgs {v : Value} {n : Nat} {y : DataW H × List MemPlace} (h : DataW.trod enc Tryz.prog W 0 (fun _ => true) true n 30 [v] = some y) : ∃ l, Dgs W v l := by
  rcases open_ints Tryz.underlying30 Tryz.underlying5 (by kernel_rfl) h with ⟨hcs, _⟩ | ⟨x, l, c, zs, hcs, _, hl, hm, hz, _, hcell, hwz⟩
  · simp at hcs
    subst hcs
    exact ⟨[], Dgs.nil _⟩
  · simp at hcs
    subst hcs
    exact dgs_of zs hl hm (by simpa using hz) x hcell hwz
theorem trod_bool1 {v : Value} {n : Nat} {y : DataW H × List MemPlace} (h : DataW.trod enc Tryz.prog W 0 (fun _ => true) true n 4 [v] = some y) : ∃ b, v = .bool b := by
  obtain ⟨b, hcs, _⟩ := DataW.trod_bool Tryz.underlying4 h
  exact ⟨b, by injection hcs⟩
theorem cells_int : Tryz.prog.cellsOf 32 = 2 := by kernel_rfl
theorem cells_rat : Tryz.prog.cellsOf 34 = 4 := by kernel_rfl
theorem cells_bool : Tryz.prog.cellsOf 4 = 1 := by kernel_rfl
theorem cells_sl : Tryz.prog.cellsOf 30 = 1 := by kernel_rfl
theorem trod_int2 {c0 c1 : Value} {n : Nat} {y : DataW H × List MemPlace} (h : DataW.trod enc Tryz.prog W 0 (fun _ => true) true n 32 [c0, c1] = some y) : (∃ b, c0 = .bool b) ∧ ∃ l, Dgs W c1 l := by
  obtain ⟨y0, y1, m, _, _, h0, h1⟩ := trod_struct2 Tryz.underlying32 h
  simp only [cells_bool, cells_sl, List.drop_zero, List.take_succ_cons, List.take_zero, List.drop_succ_cons] at h0 h1
  exact ⟨trod_bool1 h0, trod_dgs h1⟩
theorem open_ratio {v : Value} {d : DataW H} {p : List MemPlace} (hv : Value.okWide Tryz.prog W .any base 34 v) (h : DataW.Trod enc Tryz.prog W 0 (fun _ => true) true 34 v d p) :
    ∃ n1 d1 n2 d2 ds1 ds2, v = .agg #[.bool n1, d1, .bool n2, d2] ∧ Dgs W d1 ds1 ∧ Dgs W d2 ds2 := by
  obtain ⟨cs, rfl, hsz⟩ := okWide_struct Tryz.underlying34 hv
  rw [cells_rat] at hsz
  obtain ⟨c0, c1, c2, c3, rfl⟩ := array4 hsz
  obtain ⟨fuel, hf⟩ := h
  obtain ⟨y0, y1, m, _, _, h0, h1⟩ := trod_struct2 Tryz.underlying34 hf
  simp only [Value.cells, cells_int, List.drop_zero, List.take_succ_cons, List.take_zero, List.drop_succ_cons] at h0 h1
  obtain ⟨⟨n1, rfl⟩, l1, k1⟩ := trod_int2 h0
  obtain ⟨⟨n2, rfl⟩, l2, k2⟩ := trod_int2 h1
  exact ⟨n1, c1, n2, c3, l1, l2, rfl, k1, k2⟩
end
theorem reportRatio_any (n1 n2 : Bool) (d1 d2 : Value) (ds1 ds2 : List Nat) (w : World) (h1 : Dgs w d1 ds1) (h2 : Dgs w d2 ds2) (hW : W52 w) :
    Calls Tryz.prog 4 #[.agg #[.bool n1, d1, .bool n2, d2]] w fun r w' => r = .returned (.bool true) ∧ Touch [] w w' := by
  obtain ⟨⟨m, hT⟩, _, _⟩ := hW
  exact reportRatio_law n1 n2 d1 d2 ds1 ds2 w h1 h2 (fun W t => known52_any (hT.touch t))
end Go.Proofs.YtedpaajpfaoffaaGreatDoor
