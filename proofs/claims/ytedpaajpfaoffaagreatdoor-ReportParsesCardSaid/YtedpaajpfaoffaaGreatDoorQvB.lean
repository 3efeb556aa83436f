/- ratio.rules, calculate, Sub. -/
import Derived.Test.YtedpaajpfaoffaaGreatDoorQvA
import Derived.Laws.EntriesVeiled
import Derived.Test.YtedpaajpfaoffaaGreatDoorMg2
set_option linter.all false
set_option maxHeartbeats 4000000
set_option maxRecDepth 100000
namespace Go.Proofs.YtedpaajpfaoffaaGreatDoor
open Go.RowKit
theorem rules_any (w : World) : Calls Tryz.prog 83 #[] w fun r w' => r = .returned (.agg #[.func (.func 131) #[] #[], .func (.func 132) #[] #[], .func (.func 131) #[] #[], .func (.func 133) #[] #[], .func (.func 131) #[] #[], .nilFunc]) ∧ Touch [] w w' := by
 have hsn : ∀ (W : World) (a : Addr) (m : Mode), (store a .nilFunc m).run Tryz.prog W = stored Tryz.prog W a .nilFunc m := fun W a m => run_store Tryz.prog W a _ m rfl
 have b := Blk.new w 126 #[Value.func (.func 131) #[] #[], .func (.func 132) #[] #[], .func (.func 131) #[] #[], .func (.func 133) #[] #[], .func (.func 131) #[] #[], .nilFunc]
 go_enter Tryz.func83, Tryz.ntmps83
 go_wp2_with fail
 have k0 := b.cell 0
 have k1 := b.cell 1
 have k2 := b.cell 2
 have k3 := b.cell 3
 have k4 := b.cell 4
 have k5 := b.cell 5
 simp at k0 k1 k2 k3 k4 k5
 refine bodyPost_ret (v := .agg #[.func (.func 131) #[] #[], .func (.func 132) #[] #[], .func (.func 131) #[] #[], .func (.func 133) #[] #[], .func (.func 131) #[] #[], .nilFunc]) (by simp [results, Tryz.results83, go_sem, k0, k1, k2, k3, k4, k5]) rfl ⟨rfl, (Touch.refl _ _).alloc _⟩
theorem Touch.again {w w' : World} {g : Nat} {t : TypeId} {cs : Array Value} (h : Touch [g] w w') (b : Blk w g t cs) (b' : Blk w' g t cs) : Touch [] w w' := by
 refine ⟨h.os, h.tape, h.output, h.size, fun k hk _ => ?_⟩
 by_cases e : k = g
 ·subst e
  unfold Blk at b b'
  rw [b, b']
 ·exact h.block k hk (by simpa using e)
theorem apply_Mul (g N : Nat) (d1 d2 : Value) (A B : Nat) (w : World) (h1 : Dgs w d1 (dg A)) (h2 : Dgs w d2 (dg B)) (hg : Blk w g 23 #[.int .i64 0])
  (hop : ∀ W, Touch [] w W → Calls Tryz.prog 131 #[.agg #[.bool false, d1], .agg #[.bool false, d2]] W fun r w' => ∃ x, r = .returned (.tuple #[x, .int .i64 0]) ∧ IntAt w' false N x ∧ Touch [] W w') :
  Calls Tryz.prog 134 #[.func (.func 131) #[] #[], .agg #[.bool false, d1], .agg #[.bool false, d2], .pointer (some ⟨g, 0, none⟩)] w fun r w' => ∃ x, r = .returned x ∧ IntAt w' false N x ∧ Touch [] w w' := by
 have HOP := Lib.hid hop
 obtain ⟨A1, m1, c1, rfl⟩ := h1.form3
 obtain ⟨A2, m2, c2, rfl⟩ := h2.form3
 obtain ⟨ht0, hcc⟩ := box2r w false false (.slice A1 m1 c1) (.slice A2 m2 c2)
 unfold W2I at ht0 hcc
 have HC := Lib.hid hcc
 have HG := Lib.hid hg
 have e0 := (hg.touch ht0 (by simp)).cell 0
 have HGL := Lib.hid hg.lt
 have b8 : Blk ((((w.alloc (.cells #[.bool false, .slice A1 m1 c1] 32)).alloc (.cells #[.bool false, .slice A2 m2 c2] 32)).alloc (.cells #[.bool false, .slice none 0 0] 32)).alloc (.cells #[.bool false, .slice none 0 0] 32)) (w.heap.size + 1 + 1 + 1) 32 #[.bool false, .slice none 0 0] := by
  have := Blk.new (((w.alloc (.cells #[.bool false, .slice A1 m1 c1] 32)).alloc (.cells #[.bool false, .slice A2 m2 c2] 32)).alloc (.cells #[.bool false, .slice none 0 0] 32)) 32 #[.bool false, .slice none 0 0]
  simpa using this
 have ht1 : Touch [] (((w.alloc (.cells #[.bool false, .slice A1 m1 c1] 32)).alloc (.cells #[.bool false, .slice A2 m2 c2] 32)).alloc (.cells #[.bool false, .slice none 0 0] 32)) ((((w.alloc (.cells #[.bool false, .slice A1 m1 c1] 32)).alloc (.cells #[.bool false, .slice A2 m2 c2] 32)).alloc (.cells #[.bool false, .slice none 0 0] 32)).alloc (.cells #[.bool false, .slice none 0 0] 32)) := (Touch.refl _ _).alloc _
 simp at e0
 clear h1 h2 hcc hop hg
 go_enter Tryz.func134, Tryz.ntmps134
 go_wp2_with fail
 have HT0 := Lib.hid ht0
 generalize ((((w.alloc (.cells #[.bool false, .slice A1 m1 c1] 32)).alloc (.cells #[.bool false, .slice A2 m2 c2] 32)).alloc (.cells #[.bool false, .slice none 0 0] 32)).alloc (.cells #[.bool false, .slice none 0 0] 32)) = w1 at *
 generalize (((w.alloc (.cells #[.bool false, .slice A1 m1 c1] 32)).alloc (.cells #[.bool false, .slice A2 m2 c2] 32)).alloc (.cells #[.bool false, .slice none 0 0] 32)) = w0 at *
 clear e0 ht0
 with_reducible refine (HOP.out w1 (HT0.out.then0 ht1)).mono ?_
 rintro r w2 ⟨x, rfl, ⟨A3, m3, c3, rfl, hd3⟩, ht2⟩
 dsimp only
 have HT1 := Lib.hid (ht1.then0 ht2)
 have HD3 := Lib.hid hd3
 have b8' := b8.touch ht2 (by simp)
 have b7 := (HC.out _ HT1.out).2.2
 have bg := HG.out.touch (HT0.out.then0 HT1.out) (by simp)
 have q0 := b8'.cell 0
 have q1 := b8'.cell 1
 have q2 := b8'.frozen 0
 have q3 := b8'.frozen 1
 have r0 := b7.cell 0
 have r1 := b7.cell 1
 have r2 := b7.frozen 0
 have r3 := b7.frozen 1
 have s0 := bg.cell 0
 have s1 := bg.frozen 0
 have hne : g ≠ w.heap.size + 1 + 1 := by have := HGL.out; omega
 have hne2 : g ≠ w.heap.size + 1 + 1 + 1 := by have := HGL.out; omega
 simp at q0 q1 r0 r1 s0
 have HB8 := Lib.hid b8'
 have HB7 := Lib.hid b7
 have HBG := Lib.hid bg
 clear hd3 ht2 ht1 b8 b8' b7 bg
 go_wp2_with fail
 obtain ⟨z0, z1, zt⟩ := HB8.out.int2 (.bool false) (.slice A3 m3 c3)
 have hb7a := ((HB7.out.far (p := ⟨w.heap.size + 1 + 1 + 1, 0, none⟩) (by simp) (.bool false)).far (p := ⟨w.heap.size + 1 + 1 + 1, 1, none⟩) (by simp) (.slice A3 m3 c3)).far (p := ⟨g, 0, none⟩) hne.symm (.int .i64 0)
 have hga := ((HBG.out.far (p := ⟨w.heap.size + 1 + 1 + 1, 0, none⟩) hne2 (.bool false)).far (p := ⟨w.heap.size + 1 + 1 + 1, 1, none⟩) hne2 (.slice A3 m3 c3)).set_ 0 (.int .i64 0)
 have hta : Touch [w.heap.size + 1 + 1 + 1, g] w2 (((w2.setCell ⟨w.heap.size + 1 + 1 + 1, 0, none⟩ (.bool false)).setCell ⟨w.heap.size + 1 + 1 + 1, 1, none⟩ (.slice A3 m3 c3)).setCell ⟨g, 0, none⟩ (.int .i64 0)) := (((Touch.refl _ _).setCell (p := ⟨w.heap.size + 1 + 1 + 1, 0, none⟩) (.inl (by simp)) _).setCell (p := ⟨w.heap.size + 1 + 1 + 1, 1, none⟩) (.inl (by simp)) _).setCell (p := ⟨g, 0, none⟩) (.inl (by simp)) _
 have f8 := HD3.out.far2 HB8.out
 have fg := HD3.out.far HBG.out (fun i z h => by
  match i, h with
  | 0, h => cases h
  | i + 1, h => simp at h)
 have hda := HD3.out.touch hta (fun m hm hm2 => by
  simp at hm2
  rcases hm2 with e | e
  ·exact f8 m hm e
  ·exact fg m hm e)
 have htw : Touch [g] w (((w2.setCell ⟨w.heap.size + 1 + 1 + 1, 0, none⟩ (.bool false)).setCell ⟨w.heap.size + 1 + 1 + 1, 1, none⟩ (.slice A3 m3 c3)).setCell ⟨g, 0, none⟩ (.int .i64 0)) := ((HT0.out.then0 HT1.out).mono (M := [g]) (by simp)).step hta (fun m hm => by
  simp at hm
  rcases hm with e | e
  ·exact .inr (by omega)
  ·exact .inl (by simp [e]))
 have hga' : Blk (((w2.setCell ⟨w.heap.size + 1 + 1 + 1, 0, none⟩ (.bool false)).setCell ⟨w.heap.size + 1 + 1 + 1, 1, none⟩ (.slice A3 m3 c3)).setCell ⟨g, 0, none⟩ (.int .i64 0)) g 23 #[.int .i64 0] := by simpa using hga
 have ht0' := htw.again HG.out hga'
 obtain ⟨k, k1, k2⟩ := int_res' false hb7a (by omega) ht0' hda _ rfl
 refine bodyPost_ret (v := .agg #[.bool false, .slice A3 m3 c3]) (by simp [results, Tryz.results134, go_sem, k.1, k.2]) rfl ⟨_, rfl, k1, k2⟩
theorem apply_Sub (g N : Nat) (d1 d2 : Value) (A B : Nat) (w : World) (h1 : Dgs w d1 (dg A)) (h2 : Dgs w d2 (dg B)) (hg : Blk w g 23 #[.int .i64 0])
  (hop : ∀ W, Touch [] w W → Calls Tryz.prog 133 #[.agg #[.bool false, d1], .agg #[.bool false, d2]] W fun r w' => ∃ x, r = .returned (.tuple #[x, .int .i64 0]) ∧ IntAt w' false N x ∧ Touch [] W w') :
  Calls Tryz.prog 134 #[.func (.func 133) #[] #[], .agg #[.bool false, d1], .agg #[.bool false, d2], .pointer (some ⟨g, 0, none⟩)] w fun r w' => ∃ x, r = .returned x ∧ IntAt w' false N x ∧ Touch [] w w' := by
 have HOP := Lib.hid hop
 obtain ⟨A1, m1, c1, rfl⟩ := h1.form3
 obtain ⟨A2, m2, c2, rfl⟩ := h2.form3
 obtain ⟨ht0, hcc⟩ := box2r w false false (.slice A1 m1 c1) (.slice A2 m2 c2)
 unfold W2I at ht0 hcc
 have HC := Lib.hid hcc
 have HG := Lib.hid hg
 have e0 := (hg.touch ht0 (by simp)).cell 0
 have HGL := Lib.hid hg.lt
 have b8 : Blk ((((w.alloc (.cells #[.bool false, .slice A1 m1 c1] 32)).alloc (.cells #[.bool false, .slice A2 m2 c2] 32)).alloc (.cells #[.bool false, .slice none 0 0] 32)).alloc (.cells #[.bool false, .slice none 0 0] 32)) (w.heap.size + 1 + 1 + 1) 32 #[.bool false, .slice none 0 0] := by
  have := Blk.new (((w.alloc (.cells #[.bool false, .slice A1 m1 c1] 32)).alloc (.cells #[.bool false, .slice A2 m2 c2] 32)).alloc (.cells #[.bool false, .slice none 0 0] 32)) 32 #[.bool false, .slice none 0 0]
  simpa using this
 have ht1 : Touch [] (((w.alloc (.cells #[.bool false, .slice A1 m1 c1] 32)).alloc (.cells #[.bool false, .slice A2 m2 c2] 32)).alloc (.cells #[.bool false, .slice none 0 0] 32)) ((((w.alloc (.cells #[.bool false, .slice A1 m1 c1] 32)).alloc (.cells #[.bool false, .slice A2 m2 c2] 32)).alloc (.cells #[.bool false, .slice none 0 0] 32)).alloc (.cells #[.bool false, .slice none 0 0] 32)) := (Touch.refl _ _).alloc _
 simp at e0
 clear h1 h2 hcc hop hg
 go_enter Tryz.func134, Tryz.ntmps134
 go_wp2_with fail
 have HT0 := Lib.hid ht0
 generalize ((((w.alloc (.cells #[.bool false, .slice A1 m1 c1] 32)).alloc (.cells #[.bool false, .slice A2 m2 c2] 32)).alloc (.cells #[.bool false, .slice none 0 0] 32)).alloc (.cells #[.bool false, .slice none 0 0] 32)) = w1 at *
 generalize (((w.alloc (.cells #[.bool false, .slice A1 m1 c1] 32)).alloc (.cells #[.bool false, .slice A2 m2 c2] 32)).alloc (.cells #[.bool false, .slice none 0 0] 32)) = w0 at *
 clear e0 ht0
 with_reducible refine (HOP.out w1 (HT0.out.then0 ht1)).mono ?_
 rintro r w2 ⟨x, rfl, ⟨A3, m3, c3, rfl, hd3⟩, ht2⟩
 dsimp only
 have HT1 := Lib.hid (ht1.then0 ht2)
 have HD3 := Lib.hid hd3
 have b8' := b8.touch ht2 (by simp)
 have b7 := (HC.out _ HT1.out).2.2
 have bg := HG.out.touch (HT0.out.then0 HT1.out) (by simp)
 have q0 := b8'.cell 0
 have q1 := b8'.cell 1
 have q2 := b8'.frozen 0
 have q3 := b8'.frozen 1
 have r0 := b7.cell 0
 have r1 := b7.cell 1
 have r2 := b7.frozen 0
 have r3 := b7.frozen 1
 have s0 := bg.cell 0
 have s1 := bg.frozen 0
 have hne : g ≠ w.heap.size + 1 + 1 := by have := HGL.out; omega
 have hne2 : g ≠ w.heap.size + 1 + 1 + 1 := by have := HGL.out; omega
 simp at q0 q1 r0 r1 s0
 have HB8 := Lib.hid b8'
 have HB7 := Lib.hid b7
 have HBG := Lib.hid bg
 clear hd3 ht2 ht1 b8 b8' b7 bg
 go_wp2_with fail
 obtain ⟨z0, z1, zt⟩ := HB8.out.int2 (.bool false) (.slice A3 m3 c3)
 have hb7a := ((HB7.out.far (p := ⟨w.heap.size + 1 + 1 + 1, 0, none⟩) (by simp) (.bool false)).far (p := ⟨w.heap.size + 1 + 1 + 1, 1, none⟩) (by simp) (.slice A3 m3 c3)).far (p := ⟨g, 0, none⟩) hne.symm (.int .i64 0)
 have hga := ((HBG.out.far (p := ⟨w.heap.size + 1 + 1 + 1, 0, none⟩) hne2 (.bool false)).far (p := ⟨w.heap.size + 1 + 1 + 1, 1, none⟩) hne2 (.slice A3 m3 c3)).set_ 0 (.int .i64 0)
 have hta : Touch [w.heap.size + 1 + 1 + 1, g] w2 (((w2.setCell ⟨w.heap.size + 1 + 1 + 1, 0, none⟩ (.bool false)).setCell ⟨w.heap.size + 1 + 1 + 1, 1, none⟩ (.slice A3 m3 c3)).setCell ⟨g, 0, none⟩ (.int .i64 0)) := (((Touch.refl _ _).setCell (p := ⟨w.heap.size + 1 + 1 + 1, 0, none⟩) (.inl (by simp)) _).setCell (p := ⟨w.heap.size + 1 + 1 + 1, 1, none⟩) (.inl (by simp)) _).setCell (p := ⟨g, 0, none⟩) (.inl (by simp)) _
 have f8 := HD3.out.far2 HB8.out
 have fg := HD3.out.far HBG.out (fun i z h => by
  match i, h with
  | 0, h => cases h
  | i + 1, h => simp at h)
 have hda := HD3.out.touch hta (fun m hm hm2 => by
  simp at hm2
  rcases hm2 with e | e
  ·exact f8 m hm e
  ·exact fg m hm e)
 have htw : Touch [g] w (((w2.setCell ⟨w.heap.size + 1 + 1 + 1, 0, none⟩ (.bool false)).setCell ⟨w.heap.size + 1 + 1 + 1, 1, none⟩ (.slice A3 m3 c3)).setCell ⟨g, 0, none⟩ (.int .i64 0)) := ((HT0.out.then0 HT1.out).mono (M := [g]) (by simp)).step hta (fun m hm => by
  simp at hm
  rcases hm with e | e
  ·exact .inr (by omega)
  ·exact .inl (by simp [e]))
 have hga' : Blk (((w2.setCell ⟨w.heap.size + 1 + 1 + 1, 0, none⟩ (.bool false)).setCell ⟨w.heap.size + 1 + 1 + 1, 1, none⟩ (.slice A3 m3 c3)).setCell ⟨g, 0, none⟩ (.int .i64 0)) g 23 #[.int .i64 0] := by simpa using hga
 have ht0' := htw.again HG.out hga'
 obtain ⟨k, k1, k2⟩ := int_res' false hb7a (by omega) ht0' hda _ rfl
 refine bodyPost_ret (v := .agg #[.bool false, .slice A3 m3 c3]) (by simp [results, Tryz.results134, go_sem, k.1, k.2]) rfl ⟨_, rfl, k1, k2⟩
end Go.Proofs.YtedpaajpfaoffaaGreatDoor
namespace Go.Proofs.YtedpaajpfaoffaaGreatDoor
open Go.RowKit
abbrev W3Q (w : World) (d1 d2 d3 d4 : Value) : World := ((w.alloc (.cells #[.bool false, d1, .bool false, d2] 34)).alloc (.cells #[.bool false, d3, .bool false, d4] 34)).alloc (.cells #[.bool false, .slice none 0 0, .bool false, .slice none 0 0] 34)
theorem box3q (w : World) (d1 d2 d3 d4 : Value) : Touch [] w (W3Q w d1 d2 d3 d4) ∧ ∀ W, Touch [] (W3Q w d1 d2 d3 d4) W → QCell W w.heap.size false d1 false d2 ∧ QCell W (w.heap.size + 1) false d3 false d4 ∧ Blk W (w.heap.size + 1 + 1) 34 #[.bool false, .slice none 0 0, .bool false, .slice none 0 0] := by
 have b1 : Blk (w.alloc (.cells #[.bool false, d1, .bool false, d2] 34)) w.heap.size 34 #[.bool false, d1, .bool false, d2] := Blk.new _ _ _
 have b2 : Blk ((w.alloc (.cells #[.bool false, d1, .bool false, d2] 34)).alloc (.cells #[.bool false, d3, .bool false, d4] 34)) (w.heap.size + 1) 34 #[.bool false, d3, .bool false, d4] := by
  have := Blk.new (w.alloc (.cells #[.bool false, d1, .bool false, d2] 34)) 34 #[.bool false, d3, .bool false, d4]
  simpa using this
 have b3 : Blk (W3Q w d1 d2 d3 d4) (w.heap.size + 1 + 1) 34 #[.bool false, .slice none 0 0, .bool false, .slice none 0 0] := by
  have := Blk.new ((w.alloc (.cells #[.bool false, d1, .bool false, d2] 34)).alloc (.cells #[.bool false, d3, .bool false, d4] 34)) 34 #[.bool false, .slice none 0 0, .bool false, .slice none 0 0]
  simpa using this
 exact ⟨(((Touch.refl _ _).alloc _).alloc _).alloc _, fun W t => ⟨((b1.alloc _).alloc _).qcell t, (b2.alloc _).qcell t, b3.touch t (by simp)⟩⟩
abbrev W5Q (w : World) (d1 d2 d3 d4 : Value) : World := ((W3Q w d1 d2 d3 d4).alloc (.cells #[.int .i64 0] 23)).alloc (.cells #[.bool false, .slice none 0 0] 32)
theorem box5q (w : World) (d1 d2 d3 d4 : Value) : Touch [] w (W5Q w d1 d2 d3 d4) ∧ ∀ W, Touch [] (W5Q w d1 d2 d3 d4) W → (QCell W w.heap.size false d1 false d2 ∧ QCell W (w.heap.size + 1) false d3 false d4 ∧ Blk W (w.heap.size + 1 + 1) 34 #[.bool false, .slice none 0 0, .bool false, .slice none 0 0]) ∧ Blk W (w.heap.size + 1 + 1 + 1) 23 #[.int .i64 0] ∧ Blk W (w.heap.size + 1 + 1 + 1 + 1) 32 #[.bool false, .slice none 0 0] := by
 obtain ⟨t0, h0⟩ := box3q w d1 d2 d3 d4
 have b4 : Blk ((W3Q w d1 d2 d3 d4).alloc (.cells #[.int .i64 0] 23)) (w.heap.size + 1 + 1 + 1) 23 #[.int .i64 0] := by
  have := Blk.new (W3Q w d1 d2 d3 d4) 23 #[.int .i64 0]
  simpa using this
 have b5 : Blk (W5Q w d1 d2 d3 d4) (w.heap.size + 1 + 1 + 1 + 1) 32 #[.bool false, .slice none 0 0] := by
  have := Blk.new ((W3Q w d1 d2 d3 d4).alloc (.cells #[.int .i64 0] 23)) 32 #[.bool false, .slice none 0 0]
  simpa using this
 refine ⟨(t0.alloc _).alloc _, fun W t => ⟨h0 W ((((Touch.refl _ _).alloc _).alloc _).then0 t), (b4.alloc _).touch t (by simp), b5.touch t (by simp)⟩⟩
theorem Blk.qcell' {w w' : World} {g : Nat} {t : TypeId} {n1 n2 : Bool} {d1 d2 : Value} {L : List Nat} (h : Blk w g t #[.bool n1, d1, .bool n2, d2]) (ht : Touch L w w') (hg : g ∉ L) : QCell w' g n1 d1 n2 d2 := by
 have h := h.touch ht hg
 exact ⟨(h.cell 0).trans rfl, (h.cell 1).trans rfl, (h.cell 2).trans rfl, (h.cell 3).trans rfl⟩
theorem box5r (w : World) (d1 d2 d3 d4 : Value) : ∀ W, Touch [w.heap.size + 1 + 1 + 1 + 1] (W5Q w d1 d2 d3 d4) W → (QCell W w.heap.size false d1 false d2 ∧ QCell W (w.heap.size + 1) false d3 false d4 ∧ Blk W (w.heap.size + 1 + 1) 34 #[.bool false, .slice none 0 0, .bool false, .slice none 0 0]) ∧ Blk W (w.heap.size + 1 + 1 + 1) 23 #[.int .i64 0] := by
 have b1 : Blk (w.alloc (.cells #[.bool false, d1, .bool false, d2] 34)) w.heap.size 34 #[.bool false, d1, .bool false, d2] := Blk.new _ _ _
 have b2 : Blk ((w.alloc (.cells #[.bool false, d1, .bool false, d2] 34)).alloc (.cells #[.bool false, d3, .bool false, d4] 34)) (w.heap.size + 1) 34 #[.bool false, d3, .bool false, d4] := by
  have := Blk.new (w.alloc (.cells #[.bool false, d1, .bool false, d2] 34)) 34 #[.bool false, d3, .bool false, d4]
  simpa using this
 have b3 : Blk (W3Q w d1 d2 d3 d4) (w.heap.size + 1 + 1) 34 #[.bool false, .slice none 0 0, .bool false, .slice none 0 0] := by
  have := Blk.new ((w.alloc (.cells #[.bool false, d1, .bool false, d2] 34)).alloc (.cells #[.bool false, d3, .bool false, d4] 34)) 34 #[.bool false, .slice none 0 0, .bool false, .slice none 0 0]
  simpa using this
 have b4 : Blk ((W3Q w d1 d2 d3 d4).alloc (.cells #[.int .i64 0] 23)) (w.heap.size + 1 + 1 + 1) 23 #[.int .i64 0] := by
  have := Blk.new (W3Q w d1 d2 d3 d4) 23 #[.int .i64 0]
  simpa using this
 intro W t
 exact ⟨⟨((((b1.alloc _).alloc _).alloc _).alloc _).qcell' t (by simp <;> omega), (((b2.alloc _).alloc _).alloc _).qcell' t (by simp <;> omega), ((b3.alloc _).alloc _).touch t (by simp <;> omega)⟩, (b4.alloc _).touch t (by simp)⟩
theorem op_nil_in (d : Nat) (W : World) : (Op.equalIn (d + 1) 123 (.func (.func 133) #[] #[]) .nilFunc).run Tryz.prog W = .ok false W := by
 simp [Op.equalIn, run_underlying Tryz.underlying123]
theorem op_nil (W : World) : (binOp .eql 123 (.func (.func 133) #[] #[]) .nilFunc).run Tryz.prog W = .ok (.bool false) W := by
 have h : (Op.equal 123 (.func (.func 133) #[] #[]) .nilFunc).run Tryz.prog W = .ok false W := op_nil_in 9999 W
 simp only [binOp]
 simp [h]
theorem calculate_any (d1 d2 d3 d4 : Value) (A B C D : Nat) (w : World) (h1 : Dgs w d1 (dg A)) (h2 : Dgs w d2 (dg B)) (h3 : Dgs w d3 (dg C)) (h4 : Dgs w d4 (dg D)) (hA : A < Top) (hB : B < Top) (hC : C < Top) (hD : D < Top) (hAD : A * D < Top) (hCB : C * B ≤ A * D) (hBD : B * D < Top) (hB0 : 0 < B * D) :
  Calls Tryz.prog 84 #[.agg #[.bool false, d1, .bool false, d2], .agg #[.bool false, d3, .bool false, d4], .func (.func 131) #[] #[], .func (.func 133) #[] #[]] w fun r w' => ∃ x, r = .returned (.tuple #[x, .int .i64 0]) ∧ RatAt w' false ((A * D - C * B) / Nat.gcd (A * D - C * B) (B * D)) (B * D / Nat.gcd (A * D - C * B) (B * D)) x ∧ Touch [] w w' := by
 have HP1 := Lib.hid (fun W g (t : Touch [] w W) (b : Blk W g 23 #[.int .i64 0]) => apply_Mul g (A * D) d1 d4 A D W (h1.touch0 t) (h4.touch0 t) b (fun W2 t2 => nMul_any d1 d4 A D W2 (h1.touch0 (t.then0 t2)) (h4.touch0 (t.then0 t2)) hA hD hAD))
 have HP2 := Lib.hid (fun W g (t : Touch [] w W) (b : Blk W g 23 #[.int .i64 0]) => apply_Mul g (C * B) d3 d2 C B W (h3.touch0 t) (h2.touch0 t) b (fun W2 t2 => nMul_any d3 d2 C B W2 (h3.touch0 (t.then0 t2)) (h2.touch0 (t.then0 t2)) hC hB (Nat.lt_of_le_of_lt hCB hAD)))
 have HP3 := Lib.hid (fun W g (t : Touch [] w W) (b : Blk W g 23 #[.int .i64 0]) => apply_Mul g (B * D) d2 d4 B D W (h2.touch0 t) (h4.touch0 t) b (fun W2 t2 => nMul_any d2 d4 B D W2 (h2.touch0 (t.then0 t2)) (h4.touch0 (t.then0 t2)) hB hD hBD))
 have HP4 := Lib.hid (fun W g l r (b : Blk W g 23 #[.int .i64 0]) (hl : Dgs W l (dg (A * D))) (hr : Dgs W r (dg (C * B))) => apply_Sub g (A * D - C * B) l r (A * D) (C * B) W hl hr b (fun W2 t2 => nSub_any l r (A * D) (C * B) W2 (hl.touch0 t2) (hr.touch0 t2) hAD (Nat.lt_of_le_of_lt hCB hAD) hCB))
 have HP5 := Lib.hid (fun W l r (hl : Dgs W l (dg (A * D - C * B))) (hr : Dgs W r (dg (B * D))) => qMake_any false l r (A * D - C * B) (B * D) W hl hr (Nat.lt_of_le_of_lt (Nat.sub_le _ _) hAD) hBD hB0 (by simp))
 generalize A * D - C * B = NN at *
 generalize A * D = AD at *
 generalize C * B = CB at *
 generalize B * D = BD at *
 generalize hX : NN / Nat.gcd NN BD = X at *
 generalize hY : BD / Nat.gcd NN BD = Y at *
 obtain ⟨A1, m1, c1, rfl⟩ := h1.form3
 obtain ⟨A2, m2, c2, rfl⟩ := h2.form3
 obtain ⟨A3, m3, c3, rfl⟩ := h3.form3
 obtain ⟨A4, m4, c4, rfl⟩ := h4.form3
 obtain ⟨ht0, hcc⟩ := box5q w (.slice A1 m1 c1) (.slice A2 m2 c2) (.slice A3 m3 c3) (.slice A4 m4 c4)
 have hcr := box5r w (.slice A1 m1 c1) (.slice A2 m2 c2) (.slice A3 m3 c3) (.slice A4 m4 c4)
 unfold W5Q W3Q at ht0 hcc hcr
 have HC := Lib.hid hcc
 have HCR := Lib.hid hcr
 clear h1 h2 h3 h4 hcc hcr hA hB hC hD hAD hCB hBD hB0 hX hY
 have hop := op_nil
 go_enter Tryz.func84, Tryz.ntmps84
 go_wp2_with fail
 generalize (((((w.alloc (.cells #[.bool false, .slice A1 m1 c1, .bool false, .slice A2 m2 c2] 34)).alloc (.cells #[.bool false, .slice A3 m3 c3, .bool false, .slice A4 m4 c4] 34)).alloc (.cells #[.bool false, .slice none 0 0, .bool false, .slice none 0 0] 34)).alloc (.cells #[.int .i64 0] 23)).alloc (.cells #[.bool false, .slice none 0 0] 32)) = w0 at *
 clear hop
 with_reducible refine (HP1.out w0 _ ht0 (HC.out _ (Touch.refl _ _)).2.1).mono ?_
 rintro r w1 ⟨x, rfl, ⟨A5, m5, c5, rfl, hd5⟩, ht1⟩
 dsimp only
 have b13 : Blk (w1.alloc (.cells #[.bool false, .slice A5 m5 c5] 32)) w1.heap.size 32 #[.bool false, .slice A5 m5 c5] := Blk.new _ _ _
 have hta : Touch [] w0 (w1.alloc (.cells #[.bool false, .slice A5 m5 c5] 32)) := ht1.alloc _
 have HD5 : Hid (Dgs (w1.alloc (.cells #[.bool false, .slice A5 m5 c5] 32)) (.slice A5 m5 c5) (dg AD)) := Lib.hid (hd5.touch0 ((Touch.refl _ _).alloc _))
 have HT0 := Lib.hid ht0
 clear ht1 hd5 ht0
 obtain ⟨⟨⟨p0, p1, p2, p3⟩, ⟨p4, p5, p6, p7⟩, _⟩, _⟩ := HC.out _ hta
 go_wp2_with fail
 generalize w1.heap.size = g13 at *
 generalize (w1.alloc (.cells #[.bool false, .slice A5 m5 c5] 32)) = w2 at *
 have HC13 := Lib.hid (fun W (t : Touch [] w2 W) => b13.icell t)
 clear b13 p0 p1 p2 p3 p4 p5 p6 p7
 with_reducible refine (HP2.out w2 _ (HT0.out.then0 hta) (HC.out _ hta).2.1).mono ?_
 rintro r w3 ⟨x, rfl, ⟨A6, m6, c6, rfl, hd6⟩, ht3⟩
 dsimp only
 have b14 : Blk (w3.alloc (.cells #[.bool false, .slice A6 m6 c6] 32)) w3.heap.size 32 #[.bool false, .slice A6 m6 c6] := Blk.new _ _ _
 have htb : Touch [] w2 (w3.alloc (.cells #[.bool false, .slice A6 m6 c6] 32)) := ht3.alloc _
 have HD6 : Hid (Dgs (w3.alloc (.cells #[.bool false, .slice A6 m6 c6] 32)) (.slice A6 m6 c6) (dg CB)) := Lib.hid (hd6.touch0 ((Touch.refl _ _).alloc _))
 have HTA := Lib.hid hta
 clear ht3 hd6 hta
 have q0 := b14.cell 0
 have q1 := b14.cell 1
 simp at q0 q1
 obtain ⟨p0, p1⟩ := HC13.out _ htb
 go_wp2_with fail
 generalize w3.heap.size = g14 at *
 generalize (w3.alloc (.cells #[.bool false, .slice A6 m6 c6] 32)) = w4 at *
 have HTB := Lib.hid (HTA.out.then0 htb)
 have HD5' := Lib.hid (HD5.out.touch0 htb)
 clear b14 p0 p1 q0 q1 htb
 with_reducible refine (HP4.out w4 _ _ _ (HC.out _ HTB.out).2.1 HD5'.out HD6.out).mono ?_
 rintro r w5 ⟨x, rfl, ⟨A7, m7, c7, rfl, hd7⟩, ht5⟩
 dsimp only
 have HT5 := Lib.hid (HTB.out.then0 ht5)
 have b12 := (HC.out _ HT5.out).2.2
 have q0 := b12.cell 0
 have q1 := b12.cell 1
 have q2 := b12.frozen 0
 have q3 := b12.frozen 1
 simp at q0 q1
 have HB12 := Lib.hid b12
 have HD7 := Lib.hid hd7
 obtain ⟨⟨k0, k1⟩, k2, k3⟩ := int_res' (w := w) false b12 (by omega) (HT0.out.then0 HT5.out) hd7 _ rfl
 have hts : Touch [w.heap.size + 1 + 1 + 1 + 1] w0 ((w5.setCell ⟨w.heap.size + 1 + 1 + 1 + 1, 0, none⟩ (.bool false)).setCell ⟨w.heap.size + 1 + 1 + 1 + 1, 1, none⟩ (.slice A7 m7 c7)) := ((HT5.out.mono (M := [w.heap.size + 1 + 1 + 1 + 1]) (by simp)).setCell (p := ⟨w.heap.size + 1 + 1 + 1 + 1, 0, none⟩) (.inl (by simp)) _).setCell (p := ⟨w.heap.size + 1 + 1 + 1 + 1, 1, none⟩) (.inl (by simp)) _
 have HBS : Hid (Blk ((w5.setCell ⟨w.heap.size + 1 + 1 + 1 + 1, 0, none⟩ (.bool false)).setCell ⟨w.heap.size + 1 + 1 + 1 + 1, 1, none⟩ (.slice A7 m7 c7)) (w.heap.size + 1 + 1 + 1 + 1) 32 #[.bool false, .slice A7 m7 c7]) := Lib.hid (by
  have := (b12.set_ 0 (.bool false)).set_ 1 (.slice A7 m7 c7)
  simpa using this)
 have HTS := Lib.hid hts
 have HK3 := Lib.hid k3
 have HK2 : Hid (Dgs ((w5.setCell ⟨w.heap.size + 1 + 1 + 1 + 1, 0, none⟩ (.bool false)).setCell ⟨w.heap.size + 1 + 1 + 1 + 1, 1, none⟩ (.slice A7 m7 c7)) (.slice A7 m7 c7) (dg NN)) := Lib.hid (by
  obtain ⟨A', n', c', e, h⟩ := k2
  injection e with e
  injection e with e
  injection e with _ e
  injection e with e
  rw [← e] at h
  exact h)
 obtain ⟨⟨⟨p0, p1, p2, p3⟩, ⟨p4, p5, p6, p7⟩, _⟩, _⟩ := HCR.out _ hts
 clear b12 hd7 ht5 k0 k1 k2 k3 hts
 go_wp2_with fail
 generalize ((w5.setCell ⟨w.heap.size + 1 + 1 + 1 + 1, 0, none⟩ (.bool false)).setCell ⟨w.heap.size + 1 + 1 + 1 + 1, 1, none⟩ (.slice A7 m7 c7)) = w6 at *
 clear p0 p1 p2 p3 p4 p5 p6 p7 q0 q1 q2 q3
 with_reducible refine (HP3.out w6 _ HK3.out (HCR.out _ HTS.out).2).mono ?_
 rintro r w7 ⟨x, rfl, ⟨A8, m8, c8, rfl, hd8⟩, ht7⟩
 dsimp only
 have b15 : Blk (w7.alloc (.cells #[.bool false, .slice A8 m8 c8] 32)) w7.heap.size 32 #[.bool false, .slice A8 m8 c8] := Blk.new _ _ _
 have htb : Touch [] w6 (w7.alloc (.cells #[.bool false, .slice A8 m8 c8] 32)) := ht7.alloc _
 have HD8 : Hid (Dgs (w7.alloc (.cells #[.bool false, .slice A8 m8 c8] 32)) (.slice A8 m8 c8) (dg BD)) := Lib.hid (hd8.touch0 ((Touch.refl _ _).alloc _))
 have HTB2 := Lib.hid htb
 have e0 := ((HCR.out _ (HTS.out.then0 htb)).2).cell 0
 have bs := HBS.out.touch htb (by simp)
 have q0 := b15.cell 0
 have q1 := b15.cell 1
 have s0 := bs.cell 0
 have s1 := bs.cell 1
 simp at e0 q0 q1 s0 s1
 clear ht7 hd8 htb bs
 go_wp2_with fail
 generalize w7.heap.size = g15 at *
 generalize (w7.alloc (.cells #[.bool false, .slice A8 m8 c8] 32)) = w8 at *
 clear b15 e0 q0 q1 s0 s1
 with_reducible refine (HP5.out w8 _ _ (HK2.out.touch0 HTB2.out) HD8.out).mono ?_
 rintro r w9 ⟨x, rfl, ⟨A9, m9, c9, A10, m10, c10, rfl, hd9, hd10⟩, ht9⟩
 dsimp only
 have hte := (HTS.out.then0 HTB2.out).then0 ht9
 have br := (HCR.out _ hte).1.2.2
 have q0 := br.cell 0
 have q1 := br.cell 1
 have q2 := br.cell 2
 have q3 := br.cell 3
 have f0 := br.frozen 0
 have f1 := br.frozen 1
 have f2 := br.frozen 2
 have f3 := br.frozen 3
 simp at q0 q1 q2 q3
 have HBR := Lib.hid br
 have HD9 := Lib.hid hd9
 have HD10 := Lib.hid hd10
 have HTE := Lib.hid ((HK3.out.then0 HTB2.out).then0 ht9)
 clear br hd9 hd10 ht9 hte
 go_wp2_with fail
 obtain ⟨k, k1, k2⟩ := rat_res false HBR.out (by omega) HTE.out HD9.out HD10.out _ rfl
 refine bodyPost_ret (v := .tuple #[.agg #[.bool false, .slice A9 m9 c9, .bool false, .slice A10 m10 c10], .int .i64 0]) (by simp [results, Tryz.results84, go_sem, k.1, k.2.1, k.2.2.1, k.2.2.2]) rfl ⟨_, rfl, k1, k2⟩
end Go.Proofs.YtedpaajpfaoffaaGreatDoor
namespace Go.Proofs.YtedpaajpfaoffaaGreatDoor
open Go.RowKit
theorem rules_ix (a b c d e f : Value) (W : World) : (Instr.index 126 (.agg #[a, b, c, d, e, f]) (.int .i64 1)).run Tryz.prog W = .ok (.agg #[c, d]) W := by
 simp [Instr.index, run_underlying Tryz.underlying126, go_sem, Tryz.sizeOf125, Tryz.isAgg125]
theorem qSub_any (d1 d2 d3 d4 : Value) (A B C D : Nat) (w : World) (h1 : Dgs w d1 (dg A)) (h2 : Dgs w d2 (dg B)) (h3 : Dgs w d3 (dg C)) (h4 : Dgs w d4 (dg D)) (hA : A < Top) (hB : B < Top) (hC : C < Top) (hD : D < Top) (hB0 : 0 < B) (hD0 : 0 < D) (g1 : Nat.gcd A B = 1) (g2 : Nat.gcd C D = 1) (hAD : A * D < Top) (hCB : C * B ≤ A * D) (hBD : B * D < Top) :
  Calls Tryz.prog 30 #[.agg #[.bool false, d1, .bool false, d2], .agg #[.bool false, d3, .bool false, d4]] w fun r w' => ∃ x, r = .returned (.tuple #[x, .int .i64 0]) ∧ RatAt w' false ((A * D - C * B) / Nat.gcd (A * D - C * B) (B * D)) (B * D / Nat.gcd (A * D - C * B) (B * D)) x ∧ Touch [] w w' := by
 have HV1 := Lib.hid (fun W (t : Touch [] w W) => qValid_dg false d1 d2 A B W (h1.touch0 t) (h2.touch0 t) hA hB hB0 (by simp) g1)
 have HV2 := Lib.hid (fun W (t : Touch [] w W) => qValid_dg false d3 d4 C D W (h3.touch0 t) (h4.touch0 t) hC hD hD0 (by simp) g2)
 have HCA := Lib.hid (fun W (t : Touch [] w W) => calculate_any d1 d2 d3 d4 A B C D W (h1.touch0 t) (h2.touch0 t) (h3.touch0 t) (h4.touch0 t) hA hB hC hD hAD hCB hBD (Nat.mul_pos hB0 hD0))
 generalize (A * D - C * B) / Nat.gcd (A * D - C * B) (B * D) = X at *
 generalize B * D / Nat.gcd (A * D - C * B) (B * D) = Y at *
 obtain ⟨A1, m1, c1, rfl⟩ := h1.form3
 obtain ⟨A2, m2, c2, rfl⟩ := h2.form3
 obtain ⟨A3, m3, c3, rfl⟩ := h3.form3
 obtain ⟨A4, m4, c4, rfl⟩ := h4.form3
 obtain ⟨ht0, hcc⟩ := box3q w (.slice A1 m1 c1) (.slice A2 m2 c2) (.slice A3 m3 c3) (.slice A4 m4 c4)
 unfold W3Q at ht0 hcc
 have HC := Lib.hid hcc
 clear h1 h2 h3 h4 hcc hA hB hC hD hAD hCB hBD hB0 hD0 g1 g2
 go_enter Tryz.func30, Tryz.ntmps30
 go_wp2_with fail
 generalize (((w.alloc (.cells #[.bool false, .slice A1 m1 c1, .bool false, .slice A2 m2 c2] 34)).alloc (.cells #[.bool false, .slice A3 m3 c3, .bool false, .slice A4 m4 c4] 34)).alloc (.cells #[.bool false, .slice none 0 0, .bool false, .slice none 0 0] 34)) = w0 at *
 with_reducible refine (HV1.out w0 ht0).mono ?_
 rintro r w1 ⟨rfl, ht1⟩
 dsimp only
 obtain ⟨⟨p0, p1, p2, p3⟩, ⟨p4, p5, p6, p7⟩, _⟩ := HC.out _ ht1
 go_wp2_with fail
 with_reducible refine (HV2.out w1 (ht0.then0 ht1)).mono ?_
 rintro r w2 ⟨rfl, ht2⟩
 dsimp only
 replace ht2 := ht1.then0 ht2
 have HR := Lib.hid rules_any
 have hix := rules_ix (.func (.func 131) #[] #[]) (.func (.func 132) #[] #[]) (.func (.func 131) #[] #[]) (.func (.func 133) #[] #[]) (.func (.func 131) #[] #[]) .nilFunc
 have HT0 := Lib.hid ht0
 clear p0 p1 p2 p3 p4 p5 p6 p7 ht1 ht0
 go_wp2_with fail
 with_reducible refine (HR.out w2).mono ?_
 rintro r w3 ⟨rfl, ht3⟩
 dsimp only
 replace ht3 := ht2.then0 ht3
 clear ht2
 have b6 : Blk (w3.alloc (.cells #[.func (.func 131) #[] #[], .func (.func 133) #[] #[]] 125)) w3.heap.size 125 #[.func (.func 131) #[] #[], .func (.func 133) #[] #[]] := Blk.new _ _ _
 have hta : Touch [] w0 (w3.alloc (.cells #[.func (.func 131) #[] #[], .func (.func 133) #[] #[]] 125)) := ht3.alloc _
 obtain ⟨⟨p0, p1, p2, p3⟩, ⟨p4, p5, p6, p7⟩, _⟩ := HC.out _ hta
 have q0 := b6.cell 0
 have q1 := b6.cell 1
 simp at q0 q1
 clear b6
 go_wp2_with fail
 generalize (w3.alloc (.cells #[.func (.func 131) #[] #[], .func (.func 133) #[] #[]] 125)) = w4 at *
 with_reducible refine (HCA.out w4 (HT0.out.then0 hta)).mono ?_
 rintro r w9 ⟨x, rfl, ⟨A9, m9, c9, A10, m10, c10, rfl, hd9, hd10⟩, ht9⟩
 dsimp only
 have hte := hta.then0 ht9
 have br := (HC.out _ hte).2.2
 clear p0 p1 p2 p3 p4 p5 p6 p7 q0 q1
 have q0 := br.cell 0
 have q1 := br.cell 1
 have q2 := br.cell 2
 have q3 := br.cell 3
 have f0 := br.frozen 0
 have f1 := br.frozen 1
 have f2 := br.frozen 2
 have f3 := br.frozen 3
 simp at q0 q1 q2 q3
 have HBR := Lib.hid br
 have HD9 := Lib.hid hd9
 have HD10 := Lib.hid hd10
 have HTE := Lib.hid (HT0.out.then0 hte)
 clear br hd9 hd10 ht9 hte hta
 go_wp2_with fail
 obtain ⟨k, k1, k2⟩ := rat_res false HBR.out (by omega) HTE.out HD9.out HD10.out _ rfl
 refine bodyPost_ret (v := .tuple #[.agg #[.bool false, .slice A9 m9 c9, .bool false, .slice A10 m10 c10], .int .i64 0]) (by simp [results, Tryz.results30, go_sem, k.1, k.2.1, k.2.2.1, k.2.2.2]) rfl ⟨_, rfl, k1, k2⟩
end Go.Proofs.YtedpaajpfaoffaaGreatDoor
namespace Go.Proofs.YtedpaajpfaoffaaGreatDoor
open Go.RowKit
def mixL (n : Bool) (A B : Nat) : List UInt8 := (if n then [45] else []) ++ (groupL (Lib.decDigits (A / B)) ++ (if A % B = 0 then [] else 32 :: (Lib.decDigits (A % B) ++ 47 :: Lib.decDigits B)))
theorem rat_res' {w w3 : World} {g A B k c k' c' l1 e1 l3 e3 : Nat} {t : TypeId} {A1 A2 B1 B3 : Option Addr} {x0 x2 : Bool} (n : Bool) (b : Blk w3 g t #[.bool x0, .slice B1 l1 e1, .bool x2, .slice B3 l3 e3]) (hg : w.heap.size ≤ g) (ht : Touch [] w w3) (HD : Dgs w3 (.slice A1 k c) (dg A)) (HD' : Dgs w3 (.slice A2 k' c') (dg B)) (W : World)
  (hW : W = (((w3.setCell ⟨g, 0, none⟩ (.bool n)).setCell ⟨g, 1, none⟩ (.slice A1 k c)).setCell ⟨g, 2, none⟩ (.bool false)).setCell ⟨g, 3, none⟩ (.slice A2 k' c')) :
  Blk W g t #[.bool n, .slice A1 k c, .bool false, .slice A2 k' c'] ∧ (Dgs W (.slice A1 k c) (dg A) ∧ Dgs W (.slice A2 k' c') (dg B)) ∧ Touch [] w W := by
 subst hW
 have h1 := HD.far b no_byte
 have h2 := HD'.far b no_byte
 have b2 := (((b.set_ 0 (.bool n)).set_ 1 (.slice A1 k c)).set_ 2 (.bool false)).set_ 3 (.slice A2 k' c')
 have kt : Touch [g] w3 ((((w3.setCell ⟨g, 0, none⟩ (.bool n)).setCell ⟨g, 1, none⟩ (.slice A1 k c)).setCell ⟨g, 2, none⟩ (.bool false)).setCell ⟨g, 3, none⟩ (.slice A2 k' c')) := ((((Touch.refl _ _).setCell (p := ⟨g, 0, none⟩) (.inl (by simp)) _).setCell (p := ⟨g, 1, none⟩) (.inl (by simp)) _).setCell (p := ⟨g, 2, none⟩) (.inl (by simp)) _).setCell (p := ⟨g, 3, none⟩) (.inl (by simp)) _
 exact ⟨by simpa using b2, ⟨HD.touch kt (fun m hm hm2 => h1 m hm (by simpa using hm2)), HD'.touch kt (fun m hm hm2 => h2 m hm (by simpa using hm2))⟩, ht.step kt (fun m hm => .inr (by rw [List.mem_singleton] at hm; omega))⟩
theorem one_top : 1 < Top := by unfold Top; exact Nat.one_lt_pow (by omega) (by omega)
theorem sub_rest (A B : Nat) (hg : Nat.gcd A B = 1) : A * 1 - A / B * B = A % B ∧ Nat.gcd (A % B) (B * 1) = 1 ∧ A / B * B ≤ A * 1 := by
 have h := Nat.div_add_mod A B
 rw [Nat.mul_comm] at h
 refine ⟨by omega, ?_, by omega⟩
 rw [Nat.mul_one, ← hg, Nat.gcd_comm A B, Nat.gcd_rec B A]
theorem ratio_any (n : Bool) (d1 d2 : Value) (A B : Nat) (w : World) (h1 : Dgs w d1 (dg A)) (h2 : Dgs w d2 (dg B)) (hA : A < Top) (hB : B < Top) (hB0 : 0 < B) (s1 : n = true → 0 < A) (hg : Nat.gcd A B = 1) :
  Calls Tryz.prog 12 #[.agg #[.bool n, d1, .bool false, d2]] w fun r w' => r = .returned (.tuple #[.string ⟨(mixL n A B).toArray⟩, .int .i64 0]) ∧ Touch [] w w' := by
 have hqT : A / B < Top := div_top hA
 have hrT : A % B < Top := Nat.lt_of_le_of_lt (Nat.mod_le _ _) hA
 obtain ⟨z1, z2, z3⟩ := sub_rest A B hg
 have HV := Lib.hid (fun W (t : Touch [] w W) => qValid_dg n d1 d2 A B W (h1.touch0 t) (h2.touch0 t) hA hB hB0 s1 hg)
 have HS := Lib.hid (fun W (t : Touch [] w W) => qSign_any n d1 d2 A B W (h1.touch0 t) (h2.touch0 t) hA hB hB0 s1 hg)
 have HN := Lib.hid (fun W (t : Touch [] w W) (hn : n = true) => qNeg_any d1 d2 A B W (h1.touch0 t) (h2.touch0 t) hA (s1 hn) hB hB0 hg)
 have HF := Lib.hid (fun W a b (ha : Dgs W a (dg A)) (hb : Dgs W b (dg B)) => qFloor_any a b A B W ha hb hA hB hB0 hg)
 have HFR := Lib.hid (fun W a (ha : Dgs W a (dg (A / B))) => qFrom_any false a (A / B) W ha hqT (by simp))
 have HSB := Lib.hid (fun W a b c d (ha : Dgs W a (dg A)) (hb : Dgs W b (dg B)) (hc : Dgs W c (dg (A / B))) (hd : Dgs W d (dg 1)) => qSub_any a b c d A B (A / B) 1 W ha hb hc hd hA hB hqT one_top hB0 (by omega) hg (Nat.gcd_one_right _) (by rw [Nat.mul_one]; exact hA) z3 (by rw [Nat.mul_one]; exact hB))
 rw [z1, z2, Nat.div_one, Nat.div_one, Nat.mul_one] at HSB
 rw [Nat.mul_one] at z2
 have HT1 := Lib.hid (fun W a b (ha : Dgs W a (dg (A / B))) (hb : Dgs W b (dg 1)) => qText_any false a b (A / B) 1 W ha hb hqT one_top (by omega) (by simp) (Nat.gcd_one_right _))
 have HT2 := Lib.hid (fun W a b (ha : Dgs W a (dg (A % B))) (hb : Dgs W b (dg B)) => qText_any false a b (A % B) B W ha hb hrT hB hB0 (by simp) z2)
 have HS2 := Lib.hid (fun W a b (ha : Dgs W a (dg (A % B))) (hb : Dgs W b (dg B)) => qSign_any false a b (A % B) B W ha hb hrT hB hB0 (by simp) z2)
 have e1 : ratL false (A / B) 1 = Lib.decDigits (A / B) := rfl
 rw [e1] at HT1
 have hl1 := dec_len_top hqT
 have hl2 := dec_len_top hrT
 have hl3 := dec_len_top hB
 have HGR := Lib.hid (fun W => rgroup_any (Lib.decDigits (A / B)) W (by omega))
 have hgl : (groupL (Lib.decDigits (A / B))).length ≤ 400 := by
  have := cgrp_length (Lib.decDigits (A / B)).length (Lib.decDigits (A / B)) 0
  unfold groupL
  omega
 have HB1 : Hid (¬ A % B = 0 → ratL false (A % B) B = Lib.decDigits (A % B) ++ 47 :: Lib.decDigits B) := Lib.hid (fun h => by
  unfold ratL
  rw [if_neg (fun e => by subst e; simp [Nat.mod_one] at h)]
  rfl)
 have HM : Hid (mixL n A B = (if n then [45] else []) ++ (groupL (Lib.decDigits (A / B)) ++ (if A % B = 0 then [] else 32 :: (Lib.decDigits (A % B) ++ 47 :: Lib.decDigits B)))) := Lib.hid rfl
 have HSG : Hid (n = true → A ≠ 0) := Lib.hid (fun h => by have := s1 h; omega)
 have hll : ¬ A % B = 0 → (ratL false (A % B) B).length ≤ 400 := fun h => by rw [HB1.out h]; simp; omega
 obtain ⟨sv, hsv⟩ : ∃ sv : Int, sv = (if A = 0 then 0 else if n = true then -1 else 1) := ⟨_, rfl⟩
 obtain ⟨sr, hsr⟩ : ∃ sr : Int, sr = (if A % B = 0 then 0 else if false = true then -1 else 1) := ⟨_, rfl⟩
 rw [← hsv] at HS
 rw [← hsr] at HS2
 have HV1 : Hid ((n = false → ¬ sv < 0) ∧ (n = true → sv < 0)) := Lib.hid ⟨fun h => by rw [hsv, h]; split <;> simp, fun h => by rw [hsv, if_neg (HSG.out h), if_pos h]; decide⟩
 have HV2 : Hid ((A % B = 0 → sr = 0) ∧ (¬ A % B = 0 → sr = 1)) := Lib.hid ⟨fun h => by rw [hsr, if_pos h], fun h => by rw [hsr, if_neg h]; rfl⟩
 clear hsv hsr
 generalize mixL n A B = res at *
 generalize ratL false (A % B) B = rt at *
 generalize groupL (Lib.decDigits (A / B)) = gq at *
 generalize Lib.decDigits (A / B) = dq at *
 generalize Lib.decDigits (A % B) = dr at *
 generalize Lib.decDigits B = db at *
 generalize hRR : A % B = R at *
 generalize A / B = Q at *
 have HD1 := Lib.hid h1
 have HD2 := Lib.hid h2
 obtain ⟨A1, m1, c1, rfl⟩ := h1.form3
 obtain ⟨A2, m2, c2, rfl⟩ := h2.form3
 obtain ⟨ht0, hcc⟩ := boxq w n false (.slice A1 m1 c1) (.slice A2 m2 c2)
 have b0 : Blk (w.alloc (.cells #[.bool n, .slice A1 m1 c1, .bool false, .slice A2 m2 c2] 34)) w.heap.size 34 #[.bool n, .slice A1 m1 c1, .bool false, .slice A2 m2 c2] := Blk.new _ _ _
 have HC := Lib.hid hcc
 clear h1 h2 hcc hqT hrT z1 z2 z3 hA hB hB0 s1 hg e1 hl1 hl2 hl3 hRR
 go_enter Tryz.func12, Tryz.ntmps12
 go_wp2_with fail
 generalize (w.alloc (.cells #[.bool n, .slice A1 m1 c1, .bool false, .slice A2 m2 c2] 34)) = w0 at *
 have HB0 := Lib.hid b0
 clear b0
 with_reducible refine (HV.out w0 ht0).mono ?_
 rintro r w1 ⟨rfl, ht1⟩
 dsimp only
 obtain ⟨p0, p1, p2, p3⟩ := HC.out _ ht1
 go_wp2_with fail
 with_reducible refine (HS.out w1 (ht0.then0 ht1)).mono ?_
 rintro r w2 ⟨rfl, ht2⟩
 dsimp only
 replace ht2 := ht1.then0 ht2
 have HT0 := Lib.hid ht0
 clear p0 p1 p2 p3 ht1 ht0
 cases n with
 | false =>
  have hsg : (sv < 0) = False := eq_false (by have := HV1.out.1 rfl; omega)
  obtain ⟨p0, p1, p2, p3⟩ := HC.out _ ht2
  have HCW := Lib.hid (fun W (t : Touch [] w2 W) => HC.out _ (ht2.then0 t))
  have HDA : Hid (Dgs w2 (.slice A1 m1 c1) (dg A)) := Lib.hid (HD1.out.touch0 (HT0.out.then0 ht2))
  have HDB : Hid (Dgs w2 (.slice A2 m2 c2) (dg B)) := Lib.hid (HD2.out.touch0 (HT0.out.then0 ht2))
  have HTW : Hid (Touch [] w w2) := Lib.hid (HT0.out.then0 ht2)
  clear HC HD1 HD2 HB0 ht2
  go_wp2_with fail
  clear p0 p1 p2 p3
  with_reducible refine (HF.out w2 _ _ HDA.out HDB.out).mono ?_
  rintro r w5 ⟨x, rfl, ⟨A5, m5, c5, rfl, hd5⟩, ht5⟩
  dsimp only
  have b6 : Blk (w5.alloc (.cells #[.bool false, .slice A5 m5 c5] 32)) w5.heap.size 32 #[.bool false, .slice A5 m5 c5] := Blk.new _ _ _
  have hta : Touch [] w2 (w5.alloc (.cells #[.bool false, .slice A5 m5 c5] 32)) := ht5.alloc _
  have HD5 : Hid (Dgs (w5.alloc (.cells #[.bool false, .slice A5 m5 c5] 32)) (.slice A5 m5 c5) (dg Q)) := Lib.hid (hd5.touch0 ((Touch.refl _ _).alloc _))
  have q0 := b6.cell 0
  have q1 := b6.cell 1
  simp at q0 q1
  clear b6 ht5 hd5
  go_wp2_with fail
  generalize (w5.alloc (.cells #[.bool false, .slice A5 m5 c5] 32)) = w6 at *
  clear q0 q1
  with_reducible refine (HFR.out w6 _ HD5.out).mono ?_
  rintro r w7 ⟨x, rfl, ⟨A7, m7, c7, A8, m8, c8, rfl, hd7, hd8⟩, ht7⟩
  dsimp only
  replace ht7 := hta.then0 ht7
  have b8 : Blk (w7.alloc (.cells #[.bool false, .slice A7 m7 c7, .bool false, .slice A8 m8 c8] 34)) w7.heap.size 34 #[.bool false, .slice A7 m7 c7, .bool false, .slice A8 m8 c8] := Blk.new _ _ _
  have htb : Touch [] w2 (w7.alloc (.cells #[.bool false, .slice A7 m7 c7, .bool false, .slice A8 m8 c8] 34)) := ht7.alloc _
  have HD7 : Hid (Dgs (w7.alloc (.cells #[.bool false, .slice A7 m7 c7, .bool false, .slice A8 m8 c8] 34)) (.slice A7 m7 c7) (dg Q)) := Lib.hid (hd7.touch0 ((Touch.refl _ _).alloc _))
  have HD8 : Hid (Dgs (w7.alloc (.cells #[.bool false, .slice A7 m7 c7, .bool false, .slice A8 m8 c8] 34)) (.slice A8 m8 c8) (dg 1)) := Lib.hid (hd8.touch0 ((Touch.refl _ _).alloc _))
  have q0 := b8.cell 0
  have q1 := b8.cell 1
  have q2 := b8.cell 2
  have q3 := b8.cell 3
  simp at q0 q1 q2 q3
  obtain ⟨p0, p1, p2, p3⟩ := HCW.out _ htb
  clear ht7 hta hd7 hd8
  go_wp2_with fail
  generalize w7.heap.size = g8 at *
  generalize (w7.alloc (.cells #[.bool false, .slice A7 m7 c7, .bool false, .slice A8 m8 c8] 34)) = w8 at *
  have HC8 := Lib.hid (fun W (t : Touch [] w8 W) => b8.qcell t)
  clear q0 q1 q2 q3 p0 p1 p2 p3 b8
  with_reducible refine (HSB.out w8 _ _ _ _ (HDA.out.touch0 htb) (HDB.out.touch0 htb) HD7.out HD8.out).mono ?_
  rintro r w9 ⟨x, rfl, ⟨A9, m9, c9, A10, m10, c10, rfl, hd9, hd10⟩, ht9⟩
  dsimp only
  have b9 : Blk (w9.alloc (.cells #[.bool false, .slice A9 m9 c9, .bool false, .slice A10 m10 c10] 34)) w9.heap.size 34 #[.bool false, .slice A9 m9 c9, .bool false, .slice A10 m10 c10] := Blk.new _ _ _
  have htc : Touch [] w8 (w9.alloc (.cells #[.bool false, .slice A9 m9 c9, .bool false, .slice A10 m10 c10] 34)) := ht9.alloc _
  have HD9 : Hid (Dgs (w9.alloc (.cells #[.bool false, .slice A9 m9 c9, .bool false, .slice A10 m10 c10] 34)) (.slice A9 m9 c9) (dg R)) := Lib.hid (hd9.touch0 ((Touch.refl _ _).alloc _))
  have HD10 : Hid (Dgs (w9.alloc (.cells #[.bool false, .slice A9 m9 c9, .bool false, .slice A10 m10 c10] 34)) (.slice A10 m10 c10) (dg B)) := Lib.hid (hd10.touch0 ((Touch.refl _ _).alloc _))
  obtain ⟨q0, q1, q2, q3⟩ := HC8.out _ htc
  have HTC := Lib.hid ((HTW.out.then0 htb).then0 htc)
  have HD7' := Lib.hid (HD7.out.touch0 htc)
  have HD8' := Lib.hid (HD8.out.touch0 htc)
  clear ht9 hd9 hd10 htb htc
  go_wp2_with fail
  generalize w9.heap.size = g9 at *
  generalize (w9.alloc (.cells #[.bool false, .slice A9 m9 c9, .bool false, .slice A10 m10 c10] 34)) = w10 at *
  have HC9 := Lib.hid (fun W (t : Touch [] w10 W) => b9.qcell t)
  clear q0 q1 q2 q3 b9
  with_reducible refine (HT1.out w10 _ _ HD7'.out HD8'.out).mono ?_
  rintro r w11 ⟨rfl, ht11⟩
  dsimp only
  go_wp2_with fail
  with_reducible refine (HGR.out w11).mono ?_
  rintro r w12 ⟨rfl, ht12⟩
  dsimp only
  replace ht12 := ht11.then0 ht12
  have hs0 : ¬ 9223372036854775807 < gq.length := by omega
  obtain ⟨q0, q1, q2, q3⟩ := HC9.out _ ht12
  go_wp2_with fail
  with_reducible refine (HS2.out w12 _ _ (HD9.out.touch0 ht12) (HD10.out.touch0 ht12)).mono ?_
  rintro r w13 ⟨rfl, ht13⟩
  dsimp only
  replace ht13 := ht12.then0 ht13
  clear q0 q1 q2 q3 ht11 ht12
  by_cases hr : R = 0
  ·have hz : (sr != 0) = false := by rw [HV2.out.1 hr]; rfl
   have HE := Lib.hid HM.out
   rw [if_pos hr] at HE
   clear hr hll
   go_wp2_with fail
   go_ret2
   refine ⟨?_, HTC.out.then0 ht13⟩
   rw [HE.out, show (ByteArray.mk #[]) = ByteArray.mk ([] : List UInt8).toArray from rfl, tx_add]
   simp
  ·have hz : (sr != 0) = true := by rw [HV2.out.2 hr]; rfl
   have HE := Lib.hid HM.out
   rw [if_neg hr] at HE
   have hlr := hll hr
   have HRT := Lib.hid (HB1.out hr)
   obtain ⟨q0, q1, q2, q3⟩ := HC9.out _ ht13
   clear hr hll
   go_wp2_with fail
   with_reducible refine (HT2.out w13 _ _ (HD9.out.touch0 ht13) (HD10.out.touch0 ht13)).mono ?_
   rintro r w14 ⟨rfl, ht14⟩
   dsimp only
   have hs1 : ¬ 9223372036854775807 < 1 + rt.length := by omega
   have hs2 : ¬ 9223372036854775807 < gq.length + (1 + rt.length) := by omega
   go_wp2_with fail
   go_ret2
   refine ⟨?_, (HTC.out.then0 ht13).then0 ht14⟩
   rw [HE.out, show (ByteArray.mk #[32]) = ByteArray.mk [32].toArray from rfl, show (ByteArray.mk #[]) = ByteArray.mk ([] : List UInt8).toArray from rfl, tx_add, tx_add, tx_add, HRT.out]
   simp
 | true =>
  have hsg : (sv < 0) = True := eq_true (HV1.out.2 rfl)
  obtain ⟨p0, p1, p2, p3⟩ := HC.out _ ht2
  go_wp2_with fail
  with_reducible refine (HN.out w2 (HT0.out.then0 ht2) (by simp)).mono ?_
  rintro r w3 ⟨x, rfl, ⟨A3, m3, c3, A4, m4, c4, rfl, hd3, hd4⟩, ht3⟩
  dsimp only
  replace ht3 := ht2.then0 ht3
  have bq := HB0.out.touch ht3 (by simp)
  clear p0 p1 p2 p3
  have q0 := bq.cell 0
  have q1 := bq.cell 1
  have q2 := bq.cell 2
  have q3 := bq.cell 3
  have f0 := bq.frozen 0
  have f1 := bq.frozen 1
  have f2 := bq.frozen 2
  have f3 := bq.frozen 3
  simp at q0 q1 q2 q3
  obtain ⟨k, ⟨k1, k2⟩, k3⟩ := rat_res' false bq (Nat.le_refl _) (HT0.out.then0 ht3) hd3 hd4 _ rfl
  have p0 := k.cell 0
  have p1 := k.cell 1
  have p2 := k.cell 2
  have p3 := k.cell 3
  simp at p0 p1 p2 p3
  have HCW := Lib.hid (fun W t => k.qcell (w' := W) t)
  have HDA := Lib.hid k1
  have HDB := Lib.hid k2
  have HTW := Lib.hid k3
  clear k k1 k2 k3 bq ht2 ht3 hd3 hd4
  go_wp2_with fail
  generalize ((((w3.setCell ⟨w.heap.size, 0, none⟩ (.bool false)).setCell ⟨w.heap.size, 1, none⟩ (.slice A3 m3 c3)).setCell ⟨w.heap.size, 2, none⟩ (.bool false)).setCell ⟨w.heap.size, 3, none⟩ (.slice A4 m4 c4)) = w4 at *
  clear q0 q1 q2 q3 f0 f1 f2 f3
  clear p0 p1 p2 p3
  with_reducible refine (HF.out w4 _ _ HDA.out HDB.out).mono ?_
  rintro r w5 ⟨x, rfl, ⟨A5, m5, c5, rfl, hd5⟩, ht5⟩
  dsimp only
  have b6 : Blk (w5.alloc (.cells #[.bool false, .slice A5 m5 c5] 32)) w5.heap.size 32 #[.bool false, .slice A5 m5 c5] := Blk.new _ _ _
  have hta : Touch [] w4 (w5.alloc (.cells #[.bool false, .slice A5 m5 c5] 32)) := ht5.alloc _
  have HD5 : Hid (Dgs (w5.alloc (.cells #[.bool false, .slice A5 m5 c5] 32)) (.slice A5 m5 c5) (dg Q)) := Lib.hid (hd5.touch0 ((Touch.refl _ _).alloc _))
  have q0 := b6.cell 0
  have q1 := b6.cell 1
  simp at q0 q1
  clear b6 ht5 hd5
  go_wp2_with fail
  generalize (w5.alloc (.cells #[.bool false, .slice A5 m5 c5] 32)) = w6 at *
  clear q0 q1
  with_reducible refine (HFR.out w6 _ HD5.out).mono ?_
  rintro r w7 ⟨x, rfl, ⟨A7, m7, c7, A8, m8, c8, rfl, hd7, hd8⟩, ht7⟩
  dsimp only
  replace ht7 := hta.then0 ht7
  have b8 : Blk (w7.alloc (.cells #[.bool false, .slice A7 m7 c7, .bool false, .slice A8 m8 c8] 34)) w7.heap.size 34 #[.bool false, .slice A7 m7 c7, .bool false, .slice A8 m8 c8] := Blk.new _ _ _
  have htb : Touch [] w4 (w7.alloc (.cells #[.bool false, .slice A7 m7 c7, .bool false, .slice A8 m8 c8] 34)) := ht7.alloc _
  have HD7 : Hid (Dgs (w7.alloc (.cells #[.bool false, .slice A7 m7 c7, .bool false, .slice A8 m8 c8] 34)) (.slice A7 m7 c7) (dg Q)) := Lib.hid (hd7.touch0 ((Touch.refl _ _).alloc _))
  have HD8 : Hid (Dgs (w7.alloc (.cells #[.bool false, .slice A7 m7 c7, .bool false, .slice A8 m8 c8] 34)) (.slice A8 m8 c8) (dg 1)) := Lib.hid (hd8.touch0 ((Touch.refl _ _).alloc _))
  have q0 := b8.cell 0
  have q1 := b8.cell 1
  have q2 := b8.cell 2
  have q3 := b8.cell 3
  simp at q0 q1 q2 q3
  obtain ⟨p0, p1, p2, p3⟩ := HCW.out _ htb
  clear ht7 hta hd7 hd8
  go_wp2_with fail
  generalize w7.heap.size = g8 at *
  generalize (w7.alloc (.cells #[.bool false, .slice A7 m7 c7, .bool false, .slice A8 m8 c8] 34)) = w8 at *
  have HC8 := Lib.hid (fun W (t : Touch [] w8 W) => b8.qcell t)
  clear q0 q1 q2 q3 p0 p1 p2 p3 b8
  with_reducible refine (HSB.out w8 _ _ _ _ (HDA.out.touch0 htb) (HDB.out.touch0 htb) HD7.out HD8.out).mono ?_
  rintro r w9 ⟨x, rfl, ⟨A9, m9, c9, A10, m10, c10, rfl, hd9, hd10⟩, ht9⟩
  dsimp only
  have b9 : Blk (w9.alloc (.cells #[.bool false, .slice A9 m9 c9, .bool false, .slice A10 m10 c10] 34)) w9.heap.size 34 #[.bool false, .slice A9 m9 c9, .bool false, .slice A10 m10 c10] := Blk.new _ _ _
  have htc : Touch [] w8 (w9.alloc (.cells #[.bool false, .slice A9 m9 c9, .bool false, .slice A10 m10 c10] 34)) := ht9.alloc _
  have HD9 : Hid (Dgs (w9.alloc (.cells #[.bool false, .slice A9 m9 c9, .bool false, .slice A10 m10 c10] 34)) (.slice A9 m9 c9) (dg R)) := Lib.hid (hd9.touch0 ((Touch.refl _ _).alloc _))
  have HD10 : Hid (Dgs (w9.alloc (.cells #[.bool false, .slice A9 m9 c9, .bool false, .slice A10 m10 c10] 34)) (.slice A10 m10 c10) (dg B)) := Lib.hid (hd10.touch0 ((Touch.refl _ _).alloc _))
  obtain ⟨q0, q1, q2, q3⟩ := HC8.out _ htc
  have HTC := Lib.hid ((HTW.out.then0 htb).then0 htc)
  have HD7' := Lib.hid (HD7.out.touch0 htc)
  have HD8' := Lib.hid (HD8.out.touch0 htc)
  clear ht9 hd9 hd10 htb htc
  go_wp2_with fail
  generalize w9.heap.size = g9 at *
  generalize (w9.alloc (.cells #[.bool false, .slice A9 m9 c9, .bool false, .slice A10 m10 c10] 34)) = w10 at *
  have HC9 := Lib.hid (fun W (t : Touch [] w10 W) => b9.qcell t)
  clear q0 q1 q2 q3 b9
  with_reducible refine (HT1.out w10 _ _ HD7'.out HD8'.out).mono ?_
  rintro r w11 ⟨rfl, ht11⟩
  dsimp only
  go_wp2_with fail
  with_reducible refine (HGR.out w11).mono ?_
  rintro r w12 ⟨rfl, ht12⟩
  dsimp only
  replace ht12 := ht11.then0 ht12
  have hs0 : ¬ 9223372036854775807 < 1 + gq.length := by omega
  obtain ⟨q0, q1, q2, q3⟩ := HC9.out _ ht12
  go_wp2_with fail
  with_reducible refine (HS2.out w12 _ _ (HD9.out.touch0 ht12) (HD10.out.touch0 ht12)).mono ?_
  rintro r w13 ⟨rfl, ht13⟩
  dsimp only
  replace ht13 := ht12.then0 ht13
  clear q0 q1 q2 q3 ht11 ht12
  by_cases hr : R = 0
  ·have hz : (sr != 0) = false := by rw [HV2.out.1 hr]; rfl
   have HE := Lib.hid HM.out
   rw [if_pos hr] at HE
   clear hr hll
   go_wp2_with fail
   go_ret2
   refine ⟨?_, HTC.out.then0 ht13⟩
   rw [HE.out, show (ByteArray.mk #[45]) = ByteArray.mk [45].toArray from rfl, tx_add]
   simp
  ·have hz : (sr != 0) = true := by rw [HV2.out.2 hr]; rfl
   have HE := Lib.hid HM.out
   rw [if_neg hr] at HE
   have hlr := hll hr
   have HRT := Lib.hid (HB1.out hr)
   obtain ⟨q0, q1, q2, q3⟩ := HC9.out _ ht13
   clear hr hll
   go_wp2_with fail
   with_reducible refine (HT2.out w13 _ _ (HD9.out.touch0 ht13) (HD10.out.touch0 ht13)).mono ?_
   rintro r w14 ⟨rfl, ht14⟩
   dsimp only
   have hs1 : ¬ 9223372036854775807 < 1 + rt.length := by omega
   have hs2 : ¬ 9223372036854775807 < 1 + gq.length + (1 + rt.length) := by omega
   go_wp2_with fail
   go_ret2
   refine ⟨?_, (HTC.out.then0 ht13).then0 ht14⟩
   rw [HE.out, show (ByteArray.mk #[32]) = ByteArray.mk [32].toArray from rfl, show (ByteArray.mk #[45]) = ByteArray.mk [45].toArray from rfl, tx_add, tx_add, tx_add, HRT.out]
   simp
end Go.Proofs.YtedpaajpfaoffaaGreatDoor
