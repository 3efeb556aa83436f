/- The option that a bid comes to. -/
import Derived.Test.YtpbknnkobhjjcaaValidFor
namespace Go.Proofs.Ytpbknnkobhjjcaa
open Go.RowKit
set_option linter.unusedSimpArgs false

def hitB (c : Int) (F : List Int) (y : Int) : Bool := y == c || hasB F y
def pickOf (L : List Int) (c : Int) (F : List Int) : Int := (L.find? (hitB c F)).getD c
def chooseOk (x : Bx) (h c : Int) (F : List Int) : Bool := forB x h c && F.all optB
def chooseV (x : Bx) (h c : Int) (F : List Int) : Int := if chooseOk x h c F then pickOf x.names c F else 0
def chooseE (x : Bx) (h c : Int) (F : List Int) : Int := if chooseOk x h c F then 0 else 2
def ChoosePost (x : Bx) (h c : Int) (F : List Int) (w : World) (r : Ending) (w' : World) : Prop := r = .returned (.tuple #[.int .i64 (chooseV x h c F), .int .i64 (chooseE x h c F)]) ∧ Touch [] w w'
theorem choose_bad {x : Bx} {h c : Int} {F : List Int} {w w' : World} (hb : chooseOk x h c F = false) (ht : Touch [] w w') : ChoosePost x h c F w (.returned (.tuple #[.int .i64 0, .int .i64 2])) w' := by
  unfold ChoosePost chooseV chooseE
  rw [hb]
  exact ⟨rfl, ht⟩
theorem choose_ok {x : Bx} {h c y : Int} {F : List Int} {w w' : World} (hb : chooseOk x h c F = true) (hy : pickOf x.names c F = y) (ht : Touch [] w w') : ChoosePost x h c F w (.returned (.tuple #[.int .i64 y, .int .i64 0])) w' := by
  unfold ChoosePost chooseV chooseE
  rw [hb, ← hy]
  exact ⟨rfl, ht⟩
theorem find_at {l : List Int} {f : Int → Bool} {k : Nat} (hk : k < l.length) (h : (l.take k).find? f = none) (hf : f l[k] = true) : l.find? f = some l[k] := by
  have e : l = l.take k ++ (l[k] :: l.drop (k + 1)) := by rw [← List.drop_eq_getElem_cons hk, List.take_append_drop]
  conv => lhs; rw [e]
  rw [List.find?_append, h, List.find?_cons, hf]
  rfl
theorem find_next {l : List Int} {f : Int → Bool} {k : Nat} (hk : k < l.length) (h : (l.take k).find? f = none) (hf : f l[k] = false) : (l.take (k + 1)).find? f = none := by
  rw [List.take_succ_eq_append_getElem hk, List.find?_append, h, List.find?_cons, hf]
  rfl
theorem hasB_snoc (l : List Int) (y i : Int) : hasB (l ++ [y]) i = (hasB l i || i == y) := by
  unfold hasB
  rw [Bool.eq_iff_iff]
  simp
def canA (l : List Int) : Array Value := #[.bool (hasB l 0), .bool (hasB l 1), .bool (hasB l 2), .bool (hasB l 3)]
theorem canA_next {l : List Int} {k : Nat} (hk : k < l.length) : canA (l.take (k + 1)) = #[.bool (hasB (l.take k) 0 || 0 == l[k]), .bool (hasB (l.take k) 1 || 1 == l[k]), .bool (hasB (l.take k) 2 || 2 == l[k]), .bool (hasB (l.take k) 3 || 3 == l[k])] := by
  unfold canA
  rw [List.take_succ_eq_append_getElem hk]
  simp only [hasB_snoc]
theorem opt_four {y : Int} (h : optB y = true) : y = 0 ∨ y = 1 ∨ y = 2 ∨ y = 3 := by
  unfold optB at h
  simp at h
  omega

def CanRel (w : World) (p q : Nat) (cs : Array Value) (F : List Int) (ti : Value) (wr : World) : Prop := ∃ k : Nat, k ≤ F.length ∧ ti = .int .i64 k ∧ (F.take k).all optB = true ∧ Blk wr q 127 (canA (F.take k)) ∧ Blk wr p 91 cs ∧ Touch [] w wr
def PickRel (w : World) (q : Nat) (c : Int) (F L : List Int) (v ti : Value) (wr : World) : Prop := ∃ k : Nat, k ≤ L.length ∧ ti = .int .i64 k ∧ (L.take k).find? (hitB c F) = none ∧ Ints wr v L ∧ Blk wr q 127 (canA F) ∧ Touch [] w wr
theorem allow_opt {h c y : Int} (ha : allowB h c y = true) : optB y = true := by
  unfold allowB goodB at ha
  unfold optB
  simp at ha ⊢
  omega
set_option maxRecDepth 100000 in
set_option maxHeartbeats 4000000 in
theorem choose_any (x : Bx) (h c : Int) (fF : Value) (F : List Int) (w : World) (hx : x.Ok w) (hl : x.fb.length ≤ 1000) (hF : Ints w fF F) : Calls Try.prog 67 #[.agg #[I x.st, I x.pf, x.fv], .int .i64 h, .int .i64 c, fF] w (ChoosePost x h c F w) := by
  obtain ⟨A, cap, hfv, -⟩ := id hx.2.2.1
  obtain ⟨AF, capF, hfF, -⟩ := id hF.1
  have hFm : F.length ≤ 9223372036854775807 := by obtain ⟨_, _, _, q1, q2, _⟩ := id hF.1; unfold maxLen at q2; omega
  subst hfF
  have hta := (Touch.refl [] w).alloc (.cells #[I x.st, I x.pf, x.fv] 91)
  have hblk := Blk.new w 91 #[I x.st, I x.pf, x.fv]
  have HNM := Lib.hid (fun (W : World) (ht : Touch [] w W) => named_any x W (hx.touch0 ht) hl)
  have HVA := Lib.hid (fun (W : World) (ht : Touch [] w W) => validfor_any x h c W (hx.touch0 ht) hl)
  have HOK : Hid (chooseOk x h c F = (forB x h c && F.all optB)) := Lib.hid rfl
  have HCB := Lib.hid (fun (w' : World) => choose_bad (x := x) (h := h) (c := c) (F := F) (w := w) (w' := w'))
  have HCO := Lib.hid (fun (w' : World) (y : Int) => choose_ok (x := x) (h := h) (c := c) (F := F) (w := w) (w' := w') (y := y))
  have HAL : Hid (forB x h c = true → ∀ y ∈ x.names, optB y = true) := Lib.hid (fun hf y hy => by
    unfold forB at hf
    rw [Bool.and_eq_true, List.all_eq_true] at hf
    exact allow_opt (hf.2 y hy))
  generalize hP : ChoosePost x h c F w = Post at *
  generalize chooseOk x h c F = ok at *
  generalize forB x h c = fo at *
  generalize x.names = L at *
  obtain ⟨st, pf, fv, fb⟩ := x
  simp only at hfv hta hblk HNM HVA hl ⊢
  subst hfv
  clear hx hP
  unfold I at *
  cases fo with
  | false =>
    have hok : ok = false := by rw [HOK.out]; rfl
    go_enter Try.func67, Try.ntmps67
    go_wp2_with fail
    refine (HVA.out _ hta).mono ?_
    rintro r w1 ⟨rfl, ht1⟩
    go_wp2_with fail
    exact HCB.out _ hok (hta.then0 ht1)
  | true =>
  have HAL2 := Lib.hid (HAL.out rfl)
  have HOK2 : Hid (ok = F.all optB) := Lib.hid (by rw [HOK.out]; rfl)
  clear HAL HOK
  go_enter Try.func67, Try.ntmps67
  go_wp2_with fail
  refine (HVA.out _ hta).mono ?_
  rintro r w1 ⟨rfl, ht1⟩
  have hB1 := hblk.touch ht1 (by simp)
  have ht01 := hta.then0 ht1
  clear hblk hta ht1
  go_wp2_with fail
  have hqw : w.heap.size ≤ w1.heap.size := ht01.size
  go_loopw [22] (fun ti wr => CanRel w w.heap.size w1.heap.size #[.int .i64 st, .int .i64 pf, .slice A fb.length cap] F ti wr) (fun ti _ => F.length - (intOf ti).toNat)
  case atStart => exact ⟨0, by omega, rfl, rfl, Blk.new w1 _ _, hB1.alloc _, ht01.alloc _⟩
  case round =>
    obtain ⟨k, hk, rfl, hall, hQ, hB, ht⟩ := hrel
    have hne : w1.heap.size ≠ w.heap.size := fun e => by have := hB1.lt; omega
    have HALL := Lib.hid hall
    clear hall
    by_cases hlt : k < F.length
    · have hlt' : (k : Int) < (F.length : Int) := by omega
      obtain ⟨b, off, cc, e, hc, hc1, hc2⟩ := (hF.touch0 ht).at hlt
      injection e with e1 e4 e2
      subst e1 e2
      clear e4
      have HCN := Lib.hid (canA_next hlt)
      have HNA : Hid (optB F[k] = true → (F.take (k + 1)).all optB = true) := Lib.hid (fun hn => by rw [List.take_succ_eq_append_getElem hlt, List.all_append, HALL.out]; simpa using hn)
      have HNB := Lib.hid (fun hn => all_bad (f := optB) hlt hn)
      have HOP := Lib.hid (isopt_any F[k] wr)
      have HF4 := Lib.hid (fun (h4 : optB F[k] = true) => opt_four h4)
      generalize optB F[k] = ob at *
      generalize F[k] = y at *
      have HQ := Lib.hid hQ
      unfold canA at hQ
      go_wp2_with fail
      refine HOP.out.mono ?_
      rintro r w' ⟨rfl, rfl⟩
      cases ob with
      | false =>
        go_wp2_with fail
        exact HCB.out _ (by rw [HOK2.out, HNB.out (by trivial)]) ht
      | true =>
        have h4 := HF4.out (by trivial)
        rcases h4 with rfl | rfl | rfl | rfl
        · have hfz := hQ.frozen 0
          have hcl := hQ.cell 0
          simp at hcl
          go_wp2_with fail
          go_roundw
          case rel =>
            refine ⟨k + 1, hlt, by go_num, HNA.out (by trivial), ?_, hB.far (show w.heap.size ≠ (⟨w1.heap.size, 0, none⟩ : Addr).block from fun e => hne e.symm) _, ht.setCell (.inr hqw) _⟩
            rw [HCN.out]
            have := (HQ.out).set_ 0 (.bool true)
            simpa [canA] using this
          case measure => simp [intOf]; omega
        · have hfz := hQ.frozen 1
          have hcl := hQ.cell 1
          simp at hcl
          go_wp2_with fail
          go_roundw
          case rel =>
            refine ⟨k + 1, hlt, by go_num, HNA.out (by trivial), ?_, hB.far (show w.heap.size ≠ (⟨w1.heap.size, 1, none⟩ : Addr).block from fun e => hne e.symm) _, ht.setCell (.inr hqw) _⟩
            rw [HCN.out]
            have := (HQ.out).set_ 1 (.bool true)
            simpa [canA] using this
          case measure => simp [intOf]; omega
        · have hfz := hQ.frozen 2
          have hcl := hQ.cell 2
          simp at hcl
          go_wp2_with fail
          go_roundw
          case rel =>
            refine ⟨k + 1, hlt, by go_num, HNA.out (by trivial), ?_, hB.far (show w.heap.size ≠ (⟨w1.heap.size, 2, none⟩ : Addr).block from fun e => hne e.symm) _, ht.setCell (.inr hqw) _⟩
            rw [HCN.out]
            have := (HQ.out).set_ 2 (.bool true)
            simpa [canA] using this
          case measure => simp [intOf]; omega
        · have hfz := hQ.frozen 3
          have hcl := hQ.cell 3
          simp at hcl
          go_wp2_with fail
          go_roundw
          case rel =>
            refine ⟨k + 1, hlt, by go_num, HNA.out (by trivial), ?_, hB.far (show w.heap.size ≠ (⟨w1.heap.size, 3, none⟩ : Addr).block from fun e => hne e.symm) _, ht.setCell (.inr hqw) _⟩
            rw [HCN.out]
            have := (HQ.out).set_ 3 (.bool true)
            simpa [canA] using this
          case measure => simp [intOf]; omega
    · have hlt' : ¬ (k : Int) < (F.length : Int) := by omega
      have hall : F.all optB = true := by have := HALL.out; rwa [List.take_of_length_le (by omega)] at this
      have hok : ok = true := by rw [HOK2.out, hall]
      rw [List.take_of_length_le (by omega)] at hQ
      have k0 := hB.cell 0
      have k1 := hB.cell 1
      have k2 := hB.cell 2
      simp at k0 k1 k2
      clear hB1 ht01 hall
      have HOKT := Lib.hid hok
      clear hok
      go_wp2_with fail
      refine (HNM.out _ ht).mono ?_
      rintro r w2 ⟨v, rfl, hI, ht2⟩
      have hQ2 := hQ.touch ht2 (by simp)
      have ht02 := ht.then0 ht2
      have hLm : L.length ≤ 9223372036854775807 := by obtain ⟨_, _, _, q1, q2, _⟩ := id hI.1; unfold maxLen at q2; omega
      obtain ⟨Av, cv, hvf, -⟩ := id hI.1
      subst hvf
      clear k0 k1 k2 hQ hB ht2
      go_wp2_with fail
      obtain ⟨wo, rfl⟩ : ∃ wo : World, wo = wr := ⟨_, rfl⟩
      go_loopw [35] (fun ti wr => PickRel w w1.heap.size c F L (.slice Av L.length cv) ti wr) (fun ti _ => L.length - (intOf ti).toNat)
      case atStart => exact ⟨0, by omega, rfl, rfl, hI, hQ2, ht02⟩
      case round =>
        clear hI hQ2 ht02
        obtain ⟨i, hi, rfl, hno, hI, hQ, ht⟩ := hrel
        have HNO := Lib.hid hno
        clear hno
        by_cases hlti : i < L.length
        · have hlti' : (i : Int) < (L.length : Int) := by omega
          obtain ⟨b, off, cc, e, hc, hc1, hc2⟩ := hI.at hlti
          injection e with e1 e4 e2
          subst e1 e2
          clear e4
          have HNX : Hid (hitB c F L[i] = false → PickRel w w1.heap.size c F L (.slice (some ⟨b, off, none⟩) L.length cv) (.int .i64 ((i : Int) + 1)) wr) := Lib.hid (fun hn => ⟨i + 1, hlti, by go_num, find_next hlti HNO.out hn, hI, hQ, ht⟩)
          have HFD : Hid (hitB c F L[i] = true → pickOf L c F = L[i]) := Lib.hid (fun hn => by unfold pickOf; rw [find_at hlti HNO.out hn]; rfl)
          have HHB : Hid (hitB c F L[i] = (L[i] == c || hasB F L[i])) := Lib.hid rfl
          have h4 := opt_four (HAL2.out L[i] (List.getElem_mem hlti))
          generalize hitB c F L[i] = hb at *
          generalize L[i] = y at *
          by_cases hyc : y = c
          · have byc : (y == c) = true := by simpa using hyc
            have hbt : hb = true := by rw [HHB.out, byc]; rfl
            clear hyc h4
            go_wp2_with fail
            exact HCO.out _ _ HOKT.out (HFD.out hbt) ht
          · have byc : (y == c) = false := by simpa using hyc
            have hbe : hb = hasB F y := by rw [HHB.out, byc]; rfl
            clear hyc
            have q0 := hQ.cell 0
            have q1 := hQ.cell 1
            have q2 := hQ.cell 2
            have q3 := hQ.cell 3
            unfold canA at q0 q1 q2 q3
            simp at q0 q1 q2 q3
            have HBE := Lib.hid hbe
            clear hbe
            rcases h4 with rfl | rfl | rfl | rfl
            · generalize hasB F 0 = hs at *
              cases hs with
              | true =>
                go_wp2_with fail
                exact HCO.out _ _ HOKT.out (HFD.out HBE.out) ht
              | false =>
                go_wp2_with fail
                go_roundw
                case rel => exact HNX.out HBE.out
                case measure => simp [intOf]; omega
            · generalize hasB F 1 = hs at *
              cases hs with
              | true =>
                go_wp2_with fail
                exact HCO.out _ _ HOKT.out (HFD.out HBE.out) ht
              | false =>
                go_wp2_with fail
                go_roundw
                case rel => exact HNX.out HBE.out
                case measure => simp [intOf]; omega
            · generalize hasB F 2 = hs at *
              cases hs with
              | true =>
                go_wp2_with fail
                exact HCO.out _ _ HOKT.out (HFD.out HBE.out) ht
              | false =>
                go_wp2_with fail
                go_roundw
                case rel => exact HNX.out HBE.out
                case measure => simp [intOf]; omega
            · generalize hasB F 3 = hs at *
              cases hs with
              | true =>
                go_wp2_with fail
                exact HCO.out _ _ HOKT.out (HFD.out HBE.out) ht
              | false =>
                go_wp2_with fail
                go_roundw
                case rel => exact HNX.out HBE.out
                case measure => simp [intOf]; omega
        · have hlti' : ¬ (i : Int) < (L.length : Int) := by omega
          have hno : L.find? (hitB c F) = none := by have := HNO.out; rwa [List.take_of_length_le (by omega)] at this
          go_wp2_with fail
          exact HCO.out _ _ HOKT.out (by unfold pickOf; rw [hno]; rfl) ht

def FeaRel (w : World) (p : Nat) (cs : Array Value) (F : List Int) (ti : Value) (wr : World) : Prop := ∃ k : Nat, k ≤ F.length ∧ ti = .int .i64 k ∧ (F.take k).all optB = true ∧ Blk wr p 91 cs ∧ Touch [] w wr
def PickRel2 (w : World) (c : Int) (F L : List Int) (v ti : Value) (wr : World) : Prop := ∃ k : Nat, k ≤ L.length ∧ ti = .int .i64 k ∧ (L.take k).find? (hitB c F) = none ∧ Ints wr v L ∧ Touch [] w wr
set_option maxRecDepth 100000 in
set_option maxHeartbeats 4000000 in
theorem rchoose_any (x : Bx) (h c : Int) (fF : Value) (F : List Int) (w : World) (hx : x.Ok w) (hl : x.fb.length ≤ 1000) (hF : Ints w fF F) : Calls Try.prog 68 #[.agg #[I x.st, I x.pf, x.fv], .int .i64 h, .int .i64 c, fF] w (ChoosePost x h c F w) := by
  obtain ⟨A, cap, hfv, -⟩ := id hx.2.2.1
  obtain ⟨AF, capF, hfF, -⟩ := id hF.1
  have hFm : F.length ≤ 9223372036854775807 := by obtain ⟨_, _, _, q1, q2, _⟩ := id hF.1; unfold maxLen at q2; omega
  subst hfF
  have hta := (Touch.refl [] w).alloc (.cells #[I x.st, I x.pf, x.fv] 91)
  have hblk := Blk.new w 91 #[I x.st, I x.pf, x.fv]
  have HNM := Lib.hid (fun (W : World) (ht : Touch [] w W) => rnamed_any x W (hx.touch0 ht) hl)
  have HVA := Lib.hid (fun (W : World) (ht : Touch [] w W) => rvalidfor_any x h c W (hx.touch0 ht) hl)
  have HOK : Hid (chooseOk x h c F = (forB x h c && F.all optB)) := Lib.hid rfl
  have HCB := Lib.hid (fun (w' : World) => choose_bad (x := x) (h := h) (c := c) (F := F) (w := w) (w' := w'))
  have HCO := Lib.hid (fun (w' : World) (y : Int) => choose_ok (x := x) (h := h) (c := c) (F := F) (w := w) (w' := w') (y := y))
  have HAL : Hid (forB x h c = true → ∀ y ∈ x.names, optB y = true) := Lib.hid (fun hf y hy => by
    unfold forB at hf
    rw [Bool.and_eq_true, List.all_eq_true] at hf
    exact allow_opt (hf.2 y hy))
  generalize hP : ChoosePost x h c F w = Post at *
  generalize chooseOk x h c F = ok at *
  generalize forB x h c = fo at *
  generalize x.names = L at *
  obtain ⟨st, pf, fv, fb⟩ := x
  simp only at hfv hta hblk HNM HVA hl ⊢
  subst hfv
  clear hx hP
  unfold I at *
  cases fo with
  | false =>
    have hok : ok = false := by rw [HOK.out]; rfl
    go_enter Try.func68, Try.ntmps68
    go_wp2_with fail
    refine (HVA.out _ hta).mono ?_
    rintro r w1 ⟨rfl, ht1⟩
    go_wp2_with fail
    exact HCB.out _ hok (hta.then0 ht1)
  | true =>
  have HAL2 := Lib.hid (HAL.out rfl)
  have HOK2 : Hid (ok = F.all optB) := Lib.hid (by rw [HOK.out]; rfl)
  clear HAL HOK
  go_enter Try.func68, Try.ntmps68
  go_wp2_with fail
  refine (HVA.out _ hta).mono ?_
  rintro r w1 ⟨rfl, ht1⟩
  have hB1 := hblk.touch ht1 (by simp)
  have ht01 := hta.then0 ht1
  clear hblk hta ht1
  go_wp2_with fail
  go_loopw [10] (fun ti wr => FeaRel w w.heap.size #[.int .i64 st, .int .i64 pf, .slice A fb.length cap] F ti wr) (fun ti _ => F.length - (intOf ti).toNat)
  case atStart => exact ⟨0, by omega, rfl, rfl, hB1, ht01⟩
  case round =>
    clear hB1 ht01
    obtain ⟨k, hk, rfl, hall, hB, ht⟩ := hrel
    have HALL := Lib.hid hall
    clear hall
    by_cases hlt : k < F.length
    · have hlt' : (k : Int) < (F.length : Int) := by omega
      obtain ⟨b, off, cc, e, hc, hc1, hc2⟩ := (hF.touch0 ht).at hlt
      injection e with e1 e4 e2
      subst e1 e2
      clear e4
      have HNX : Hid (optB F[k] = true → FeaRel w w.heap.size #[.int .i64 st, .int .i64 pf, .slice A fb.length cap] F (.int .i64 ((k : Int) + 1)) wr) := Lib.hid (fun hn => ⟨k + 1, hlt, by go_num, by rw [List.take_succ_eq_append_getElem hlt, List.all_append, HALL.out]; simpa using hn, hB, ht⟩)
      have HNB := Lib.hid (fun hn => all_bad (f := optB) hlt hn)
      have HOB : Hid (optB F[k] = decide (0 ≤ F[k] ∧ F[k] ≤ 3)) := Lib.hid rfl
      generalize optB F[k] = ob at *
      generalize F[k] = y at *
      by_cases y1 : y < 0
      · go_wp2_with fail
        exact HCB.out _ (by rw [HOK2.out, HNB.out (by rw [HOB.out]; exact decide_eq_false (by omega))]) ht
      have dy1 : decide (y < 0) = false := by simpa using y1
      by_cases y2 : 3 < y
      · go_wp2_with fail
        exact HCB.out _ (by rw [HOK2.out, HNB.out (by rw [HOB.out]; exact decide_eq_false (by omega))]) ht
      have dy2 : decide (3 < y) = false := by simpa using y2
      go_wp2_with fail
      go_roundw
      case rel => exact HNX.out (by rw [HOB.out]; exact decide_eq_true (by omega))
      case measure => simp [intOf]; omega
    · have hlt' : ¬ (k : Int) < (F.length : Int) := by omega
      have hall : F.all optB = true := by have := HALL.out; rwa [List.take_of_length_le (by omega)] at this
      have hok : ok = true := by rw [HOK2.out, hall]
      have k0 := hB.cell 0
      have k1 := hB.cell 1
      have k2 := hB.cell 2
      simp at k0 k1 k2
      have HOKT := Lib.hid hok
      clear hok hall
      go_wp2_with fail
      refine (HNM.out _ ht).mono ?_
      rintro r w2 ⟨v, rfl, hI, ht2⟩
      have ht02 := ht.then0 ht2
      have hLm : L.length ≤ 9223372036854775807 := by obtain ⟨_, _, _, q1, q2, _⟩ := id hI.1; unfold maxLen at q2; omega
      obtain ⟨Av, cv, hvf, -⟩ := id hI.1
      subst hvf
      clear k0 k1 k2 hB ht2
      go_wp2_with fail
      obtain ⟨wo, rfl⟩ : ∃ wo : World, wo = wr := ⟨_, rfl⟩
      go_loopw [12] (fun ti wr => PickRel2 w c F L (.slice Av L.length cv) ti wr) (fun ti _ => L.length - (intOf ti).toNat)
      case atStart => exact ⟨0, by omega, rfl, rfl, hI, ht02⟩
      case round =>
        clear hI ht02
        obtain ⟨i, hi, rfl, hno, hI, ht⟩ := hrel
        have HNO := Lib.hid hno
        clear hno
        by_cases hlti : i < L.length
        · have hlti' : (i : Int) < (L.length : Int) := by omega
          obtain ⟨b, off, cc, e, hc, hc1, hc2⟩ := hI.at hlti
          injection e with e1 e4 e2
          subst e1 e2
          clear e4
          have HNX : Hid (hitB c F L[i] = false → PickRel2 w c F L (.slice (some ⟨b, off, none⟩) L.length cv) (.int .i64 ((i : Int) + 1)) wr) := Lib.hid (fun hn => ⟨i + 1, hlti, by go_num, find_next hlti HNO.out hn, hI, ht⟩)
          have HFD : Hid (hitB c F L[i] = true → pickOf L c F = L[i]) := Lib.hid (fun hn => by unfold pickOf; rw [find_at hlti HNO.out hn]; rfl)
          have HHB : Hid (hitB c F L[i] = (L[i] == c || hasB F L[i])) := Lib.hid rfl
          have HHS := Lib.hid (rhas_any _ F L[i] wr (hF.touch0 ht))
          generalize hitB c F L[i] = hb at *
          generalize hasB F L[i] = hs at *
          generalize L[i] = y at *
          by_cases hyc : y = c
          · have byc : (y == c) = true := by simpa using hyc
            have hbt : hb = true := by rw [HHB.out, byc]; rfl
            clear hyc
            go_wp2_with fail
            exact HCO.out _ _ HOKT.out (HFD.out hbt) ht
          · have byc : (y == c) = false := by simpa using hyc
            have hbe : hb = hs := by rw [HHB.out, byc]; rfl
            have HBE := Lib.hid hbe
            clear hbe hyc
            go_wp2_with fail
            refine HHS.out.mono ?_
            rintro r w' ⟨rfl, rfl⟩
            cases hs with
            | true =>
              go_wp2_with fail
              exact HCO.out _ _ HOKT.out (HFD.out HBE.out) ht
            | false =>
              go_wp2_with fail
              go_roundw
              case rel => exact HNX.out HBE.out
              case measure => simp [intOf]; omega
        · have hlti' : ¬ (i : Int) < (L.length : Int) := by omega
          have hno : L.find? (hitB c F) = none := by have := HNO.out; rwa [List.take_of_length_le (by omega)] at this
          go_wp2_with fail
          exact HCO.out _ _ HOKT.out (by unfold pickOf; rw [hno]; rfl) ht
end Go.Proofs.Ytpbknnkobhjjcaa
