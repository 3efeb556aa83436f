/- The document's Same; bandplanref02.Valid. -/
import Derived.Test.YtedpaajpfaoffaaGreatDoorRm1
import Derived.Test.YtedpaajpfaoffaaGreatDoorQvB
set_option linter.all false
set_option maxHeartbeats 4000000
set_option maxRecDepth 100000
namespace Go.Proofs.YtedpaajpfaoffaaGreatDoor
open Go.RowKit
def bt (N : Nat) : List UInt8 := (dg N).map UInt8.ofNat
theorem bt_nat (N : Nat) : (bt N).map (fun b => b.toNat) = dg N := by
 unfold bt
 rw [List.map_map]
 conv => rhs; rw [← List.map_id (dg N)]
 apply List.map_congr_left
 intro d hd
 have := dg_below N d hd
 simp
 omega
theorem bt_inj {A B : Nat} (h : bt A = bt B) : A = B := by
 have := congrArg (List.map (fun b : UInt8 => b.toNat)) h
 rw [bt_nat, bt_nat] at this
 rw [← dv_dg A, ← dv_dg B, this]
theorem conv_bt (W : World) {A : Option Addr} {n c N : Nat} (hd : Dgs W (.slice A n c) (dg N)) : (convert 30 9 (.slice A n c)).run Tryz.prog W = .ok (.string ⟨(bt N).toArray⟩) W := by
 by_cases h : bt N = []
 ·have h0 : dg N = [] := by rw [← bt_nat, h]; rfl
  rw [h0] at hd
  obtain ⟨A', c', e⟩ := hd.form
  injection e with e1 e2 e3
  subst e1 e3
  simp only [List.length_nil] at e2
  subst e2
  rw [h]
  cases A with
  | some a => exact run_convert_bytes_back (P := Tryz.prog) W 30 9 5 a c [] Tryz.underlying30 Tryz.underlying5 Tryz.underlying9 (fun j hj => by simp at hj)
  | none =>
   rw [run_convert_bytes_string W 30 9 5 none 0 c Tryz.underlying30 Tryz.underlying5 Tryz.underlying9]
   simp [Conv.bytesToString, loadCells, loadCellsFrom]
   try rfl
 ·exact conv_text W (by rw [bt_nat]; exact hd) h
theorem rSame_any (d1 d2 : Value) (A B : Nat) (w : World) (h1 : Dgs w d1 (dg A)) (h2 : Dgs w d2 (dg B)) : Calls Tryz.prog 33 #[.agg #[.bool false, d1], .agg #[.bool false, d2]] w fun r w' => r = .returned (.bool (decide (A = B))) ∧ Touch [] w w' := by
 obtain ⟨A1, m1, c1, rfl⟩ := h1.form3
 obtain ⟨A2, m2, c2, rfl⟩ := h2.form3
 obtain ⟨ht0, hcc⟩ := box2 w false false (.slice A1 m1 c1) (.slice A2 m2 c2)
 have k1 := conv_bt _ (h1.touch0 ht0)
 have k2 := conv_bt _ (h2.touch0 ht0)
 unfold W2I at ht0 hcc k1 k2
 obtain ⟨⟨p0, p1⟩, ⟨p2, p3⟩⟩ := hcc _ (Touch.refl _ _)
 have HI : Hid (bt A = bt B ↔ A = B) := Lib.hid ⟨bt_inj, fun h => by rw [h]⟩
 clear h1 h2 hcc
 generalize bt A = l1 at *
 generalize bt B = l2 at *
 go_enter Tryz.func33, Tryz.ntmps33
 go_wp2_with fail
 go_ret
 refine ⟨?_, ht0⟩
 have e : (l1 == l2) = decide (A = B) := by
  rw [Bool.eq_iff_iff]
  simp [HI.out]
 rw [← e]
 rfl
end Go.Proofs.YtedpaajpfaoffaaGreatDoor
namespace Go.Proofs.YtedpaajpfaoffaaGreatDoor
open Go.RowKit
end Go.Proofs.YtedpaajpfaoffaaGreatDoor
namespace Go.Proofs.YtedpaajpfaoffaaGreatDoor
open Go.RowKit
end Go.Proofs.YtedpaajpfaoffaaGreatDoor
