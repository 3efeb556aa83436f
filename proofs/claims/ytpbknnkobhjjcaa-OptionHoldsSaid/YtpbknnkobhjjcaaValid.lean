/- Which bids are valid. -/
import Derived.Test.YtpbknnkobhjjcaaBids
namespace Go.Proofs.Ytpbknnkobhjjcaa
open Go.RowKit
set_option linter.unusedSimpArgs false

/-- The name at k is an option, and stands nowhere before. -/
def nmB (l : List Int) (k : Nat) : Bool := match l[k]? with
  | some y => optB y && !hasB (l.take k) y
  | none => true
def namesB (l : List Int) : Bool := (List.range l.length).all (nmB l)
def headB (x : Bx) : Bool := decide (0 ≤ x.st ∧ x.st ≤ 511 ∧ x.fb.length ≤ 3)
def bidB (x : Bx) : Bool := headB x && namesB x.names
theorem names_all {l : List Int} : namesB l = true ↔ ∀ k, k < l.length → nmB l k = true := by
  unfold namesB
  rw [List.all_eq_true]
  exact ⟨fun h k hk => h k (List.mem_range.2 hk), fun h k hk => h k (List.mem_range.1 hk)⟩
theorem names_bad {l : List Int} {k : Nat} (hk : k < l.length) (h : nmB l k = false) : namesB l = false := by
  cases e : namesB l with
  | false => rfl
  | true => rw [names_all.1 e k hk] at h; cases h
theorem nmB_at {l : List Int} {k : Nat} (hk : k < l.length) : nmB l k = (optB l[k] && !hasB (l.take k) l[k]) := by unfold nmB; rw [List.getElem?_eq_getElem hk]
theorem Ints.part {w : World} {A : Option Addr} {l : List Int} {cap : Nat} (h : Ints w (.slice A l.length cap) l) (k : Nat) (hk : k ≤ l.length) : Ints w (.slice A k cap) (l.take k) := by
  obtain ⟨⟨A', cap', e, h1, h2, h3, h4⟩, hf⟩ := h
  injection e with e1 _ e2
  subst e1 e2
  have hl : (l.take k).length = k := by rw [List.length_take]; omega
  refine ⟨⟨A, cap, by rw [hl], by omega, h2, by simp, fun hn => ?_⟩, fun n hn => hf n (List.mem_of_mem_take hn)⟩
  obtain ⟨b, off, e, hb, hc⟩ := h4 (by rw [hl] at hn; omega)
  refine ⟨b, off, e, hb, fun j u hu => hc j u ?_⟩
  rw [List.map_take, List.getElem?_take] at hu
  split at hu
  · exact hu
  · cases hu
/-- At the head of round k: the names before k are fine. -/
def NmRel (w : World) (l : List Int) (v ti : Value) (wr : World) : Prop := ∃ k : Nat, k ≤ l.length ∧ ti = .int .i64 k ∧ (∀ j, j < k → nmB l j = true) ∧ Ints wr v l ∧ Touch [] w wr
theorem NmRel.next {w w' : World} {l : List Int} {v : Value} {k : Nat} (hk : k < l.length) (h : ∀ j, j < k → nmB l j = true) (hn : nmB l k = true) (hI : Ints w' v l) (ht : Touch [] w w') : NmRel w l v (.int .i64 ((k : Int) + 1)) w' :=
  ⟨k + 1, hk, by go_num, fun j hj => by rcases Nat.lt_succ_iff_lt_or_eq.1 hj with h1 | rfl; exact h j h1; exact hn, hI, ht⟩
set_option maxRecDepth 100000 in
set_option maxHeartbeats 2000000 in
theorem bvalid_any (x : Bx) (w : World) (hx : x.Ok w) : Calls Try.prog 61 #[.agg #[I x.st, I x.pf, x.fv]] w fun r w' => r = .returned (.bool (bidB x)) ∧ Touch [] w w' := by
  obtain ⟨A, cap, hfv, -⟩ := id hx.2.2.1
  have hta := (Touch.refl [] w).alloc (.cells #[I x.st, I x.pf, x.fv] 91)
  have hnm := fun (hl : x.fb.length ≤ 1000) => named_any x _ (hx.touch0 hta) hl
  have HNM := Lib.hid hnm
  have HBB : Hid (bidB x = (headB x && namesB x.names)) := Lib.hid rfl
  have HHB : Hid (headB x = decide (0 ≤ x.st ∧ x.st ≤ 511 ∧ x.fb.length ≤ 3)) := Lib.hid rfl
  generalize bidB x = res at *
  generalize headB x = hb at *
  generalize x.names = L at *
  obtain ⟨st, pf, fv, fb⟩ := x
  simp only at hfv hta HNM HHB ⊢
  subst hfv
  clear hx hnm
  unfold I at *
  by_cases h1 : st < 0
  · have hres : res = false := by rw [HBB.out, HHB.out]; simp; omega
    subst hres
    go_enter Try.func61, Try.ntmps61
    go_wp2_with fail
    go_ret
    exact ⟨rfl, hta⟩
  have n1 : 0 ≤ st := by omega
  have d1 : decide (st < 0) = false := by simpa using h1
  by_cases h2 : 512 ≤ st
  · have hres : res = false := by rw [HBB.out, HHB.out]; simp; omega
    subst hres
    go_enter Try.func61, Try.ntmps61
    go_wp2_with fail
    go_ret
    exact ⟨rfl, hta⟩
  have n2 : st < 512 := by omega
  have d2 : decide (512 ≤ st) = false := by simpa using h2
  by_cases h3 : 3 < fb.length
  · have hres : res = false := by rw [HBB.out, HHB.out]; simp; omega
    have h3' : (3 : Int) < (fb.length : Int) := by omega
    subst hres
    go_enter Try.func61, Try.ntmps61
    go_wp2_with fail
    go_ret
    exact ⟨rfl, hta⟩
  have n3 : ¬ (3 : Int) < (fb.length : Int) := by omega
  have d3 : decide ((3 : Int) < (fb.length : Int)) = false := by simpa using n3
  have hres : res = namesB L := by rw [HBB.out, HHB.out, decide_eq_true (by omega)]; rfl
  have HR := Lib.hid hres
  clear hres HBB HHB
  go_enter Try.func61, Try.ntmps61
  go_wp2_with fail
  refine (HNM.out (by omega)).mono ?_
  rintro r w1 ⟨v, rfl, hI, ht1⟩
  have ht01 := hta.then0 ht1
  have hLm : L.length ≤ 9223372036854775807 := by obtain ⟨_, _, _, q1, q2, _⟩ := id hI.1; unfold maxLen at q2; omega
  obtain ⟨Av, cv, hvf, -⟩ := id hI.1
  subst hvf
  clear ht1 hta HNM
  go_wp2_with fail
  go_loopw [24] (fun ti wr => NmRel w L (.slice Av L.length cv) ti wr) (fun ti _ => L.length - (intOf ti).toNat)
  case atStart => exact ⟨0, by omega, rfl, fun j hj => by omega, hI, ht01⟩
  case round =>
    clear hI ht01
    obtain ⟨k, hk, rfl, hall, hI, ht⟩ := hrel
    by_cases hlt : k < L.length
    · have hlt' : (k : Int) < (L.length : Int) := by omega
      obtain ⟨b, off, c, e, hc, hc1, hc2⟩ := hI.at hlt
      injection e with e1 e4 e2
      subst e1 e2
      clear e4
      have HP := Lib.hid (hI.part k hk)
      have HNX := Lib.hid (fun hn => NmRel.next hlt hall hn hI ht)
      have HNB := Lib.hid (fun hn => names_bad hlt hn)
      have HAT := Lib.hid (nmB_at hlt)
      generalize nmB L k = nb at *
      generalize L[k] = y at *
      clear hall
      have HOP := Lib.hid (isopt_any y wr)
      generalize optB y = ob at *
      go_wp2_with fail
      refine HOP.out.mono ?_
      rintro r w' ⟨rfl, rfl⟩
      cases ob with
      | false =>
        go_wp2_with fail
        go_ret
        exact ⟨by rw [HR.out, HNB.out (by rw [HAT.out]; rfl)]; rfl, ht⟩
      | true =>
        go_wp2_with fail
        refine (contains_any _ _ y _ HP.out).mono ?_
        rintro r w' ⟨rfl, rfl⟩
        generalize hasB (L.take k) y = hs at *
        cases hs with
        | true =>
          go_wp2_with fail
          go_ret
          exact ⟨by rw [HR.out, HNB.out (by rw [HAT.out]; rfl)]; rfl, ht⟩
        | false =>
          go_wp2_with fail
          go_roundw
          case rel => exact HNX.out (by rw [HAT.out]; rfl)
          case measure => simp [intOf]; omega
    · have hlt' : ¬ (k : Int) < (L.length : Int) := by omega
      go_wp2_with fail
      go_ret
      exact ⟨by rw [HR.out, names_all.2 (fun j hj => hall j (by omega))]; rfl, ht⟩

def InRel (w : World) (l : List Int) (v : Value) (k : Nat) (y : Int) (tj : Value) (wr : World) : Prop := ∃ j : Nat, j ≤ k ∧ tj = .int .i64 j ∧ y ∉ l.take j ∧ Ints wr v l ∧ Touch [] w wr
set_option maxRecDepth 100000 in
set_option maxHeartbeats 2000000 in
theorem rbvalid_any (x : Bx) (w : World) (hx : x.Ok w) : Calls Try.prog 62 #[.agg #[I x.st, I x.pf, x.fv]] w fun r w' => r = .returned (.bool (bidB x)) ∧ Touch [] w w' := by
  obtain ⟨A, cap, hfv, -⟩ := id hx.2.2.1
  have hta := (Touch.refl [] w).alloc (.cells #[I x.st, I x.pf, x.fv] 91)
  have hnm := fun (hl : x.fb.length ≤ 1000) => rnamed_any x _ (hx.touch0 hta) hl
  have HNM := Lib.hid hnm
  have HBB : Hid (bidB x = (headB x && namesB x.names)) := Lib.hid rfl
  have HHB : Hid (headB x = decide (0 ≤ x.st ∧ x.st ≤ 511 ∧ x.fb.length ≤ 3)) := Lib.hid rfl
  generalize bidB x = res at *
  generalize headB x = hb at *
  generalize x.names = L at *
  obtain ⟨st, pf, fv, fb⟩ := x
  simp only at hfv hta HNM HHB ⊢
  subst hfv
  clear hx hnm
  unfold I at *
  by_cases h1 : st < 0
  · have hres : res = false := by rw [HBB.out, HHB.out]; simp; omega
    subst hres
    go_enter Try.func62, Try.ntmps62
    go_wp2_with fail
    go_ret
    exact ⟨rfl, hta⟩
  have n1 : 0 ≤ st := by omega
  have d1 : decide (st < 0) = false := by simpa using h1
  by_cases h2 : 511 < st
  · have hres : res = false := by rw [HBB.out, HHB.out]; simp; omega
    subst hres
    go_enter Try.func62, Try.ntmps62
    go_wp2_with fail
    go_ret
    exact ⟨rfl, hta⟩
  have n2 : st ≤ 511 := by omega
  have d2 : decide (511 < st) = false := by simpa using h2
  by_cases h3 : 3 < fb.length
  · have hres : res = false := by rw [HBB.out, HHB.out]; simp; omega
    have h3' : (3 : Int) < (fb.length : Int) := by omega
    subst hres
    go_enter Try.func62, Try.ntmps62
    go_wp2_with fail
    go_ret
    exact ⟨rfl, hta⟩
  have n3 : ¬ (3 : Int) < (fb.length : Int) := by omega
  have d3 : decide ((3 : Int) < (fb.length : Int)) = false := by simpa using n3
  have hres : res = namesB L := by rw [HBB.out, HHB.out, decide_eq_true (by omega)]; rfl
  have HR := Lib.hid hres
  clear hres HBB HHB
  go_enter Try.func62, Try.ntmps62
  go_wp2_with fail
  refine (HNM.out (by omega)).mono ?_
  rintro r w1 ⟨v, rfl, hI, ht1⟩
  have ht01 := hta.then0 ht1
  have hLm : L.length ≤ 9223372036854775807 := by obtain ⟨_, _, _, q1, q2, _⟩ := id hI.1; unfold maxLen at q2; omega
  obtain ⟨Av, cv, hvf, -⟩ := id hI.1
  subst hvf
  clear ht1 hta HNM
  go_wp2_with fail
  go_loopw [4] (fun ti wr => NmRel w L (.slice Av L.length cv) ti wr) (fun ti _ => L.length - (intOf ti).toNat)
  case atStart => exact ⟨0, by omega, rfl, fun j hj => by omega, hI, ht01⟩
  case round =>
    clear hI ht01
    obtain ⟨k, hk, rfl, hall, hI, ht⟩ := hrel
    by_cases hlt : k < L.length
    · have hlt' : (k : Int) < (L.length : Int) := by omega
      obtain ⟨b, off, c, e, hc, hc1, hc2⟩ := hI.at hlt
      injection e with e1 e4 e2
      subst e1 e2
      clear e4
      have HNX := Lib.hid (fun (w' : World) (hn : nmB L k = true) (hI : Ints w' (.slice (some ⟨b, off, none⟩) L.length cv) L) (ht : Touch [] w w') => NmRel.next hlt hall hn hI ht)
      have HNB := Lib.hid (fun hn => names_bad hlt hn)
      have HAT := Lib.hid (nmB_at hlt)
      have HOB : Hid (optB L[k] = decide (0 ≤ L[k] ∧ L[k] ≤ 3)) := Lib.hid rfl
      have HHS : Hid (hasB (L.take k) L[k] = decide (L[k] ∈ L.take k)) := Lib.hid rfl
      have HY := Lib.hid (show ∃ y, y = L[k] from ⟨_, rfl⟩)
      obtain ⟨y, hy⟩ := HY.out
      rw [← hy] at hc HAT HOB HHS
      have HYE := Lib.hid hy
      clear hy HY
      generalize nmB L k = nb at *
      clear hall
      by_cases y1 : y < 0
      · go_wp2_with fail
        go_ret
        exact ⟨by rw [HR.out, HNB.out (by rw [HAT.out, HOB.out, decide_eq_false (by omega)]; rfl)]; rfl, ht⟩
      have dy1 : decide (y < 0) = false := by simpa using y1
      by_cases y2 : 3 < y
      · go_wp2_with fail
        go_ret
        exact ⟨by rw [HR.out, HNB.out (by rw [HAT.out, HOB.out, decide_eq_false (by omega)]; rfl)]; rfl, ht⟩
      have dy2 : decide (3 < y) = false := by simpa using y2
      have HOT : Hid (optB y = true) := Lib.hid (by rw [HOB.out]; exact decide_eq_true (by omega))
      go_wp2_with fail
      clear hc
      obtain ⟨wo, rfl⟩ : ∃ wo : World, wo = wr := ⟨_, rfl⟩
      go_loopw [5] (fun tj wr => InRel w L (.slice (some ⟨b, off, none⟩) L.length cv) k y tj wr) (fun tj _ => k - (intOf tj).toNat)
      case atStart => exact ⟨0, by omega, rfl, by simp, hI, ht⟩
      case round =>
        clear hI ht
        obtain ⟨j, hj, rfl, hno, hI, ht⟩ := hrel
        by_cases hjk : j < k
        · have hjk' : (j : Int) < (k : Int) := by omega
          have hjl' : (j : Int) < (L.length : Int) := by omega
          obtain ⟨b1, off1, cc1, e1, hd1, -, -⟩ := hI.at (k := j) (by omega)
          obtain ⟨b2, off2, cc2, e2, hd2, -, -⟩ := hI.at (k := k) hlt
          injection e1 with e1 e4 e3
          injection e1 with e1
          injection e1 with e1 e5
          injection e2 with e2 e6 e7
          injection e2 with e2
          injection e2 with e2 e8
          subst e1 e3 e5 e2 e7 e8
          clear e4 e6
          rw [← HYE.out] at hd2
          have HNJ : Hid (¬ L[j] = y → y ∉ L.take (j + 1)) := Lib.hid (fun hne => by
            rw [List.take_succ_eq_append_getElem (by omega), List.mem_append]
            rintro (h' | h')
            · exact hno h'
            · exact hne (List.mem_singleton.1 h').symm)
          have HIN : Hid (L[j] = y → y ∈ L.take k) := Lib.hid (fun he => by
            rw [← he, List.mem_take_iff_getElem]
            exact ⟨j, by omega, rfl⟩)
          generalize L[j] = z at *
          have HNO := Lib.hid hno
          clear hno
          by_cases hzy : z = y
          · have hb : (z == y) = true := by simp [hzy]
            go_wp2_with fail
            go_quiet (fail)
            go_wp2_with fail
            go_ret
            exact ⟨by rw [HR.out, HNB.out (by rw [HAT.out, HHS.out, decide_eq_true (HIN.out hzy)]; simp)]; rfl, ht.drewN _⟩
          · have hb : (z == y) = false := by simpa using hzy
            have HRJ : Hid (∀ n, InRel w L (.slice (some ⟨b, off, none⟩) L.length cv) k y (.int .i64 ((j : Int) + 1)) (wr.drewN n)) := Lib.hid (fun n => ⟨j + 1, by omega, by go_num, HNJ.out hzy, hI.touch0 ((Touch.refl [] wr).drewN n), ht.drewN n⟩)
            go_wp2_with fail
            go_quiet (fail)
            go_wp2_with fail
            go_roundw
            case rel => exact HRJ.out _
            case measure => simp [intOf]; omega
        · have hjk' : ¬ (j : Int) < (k : Int) := by omega
          obtain rfl : j = k := by omega
          have HRK : Hid (NmRel w L (.slice (some ⟨b, off, none⟩) L.length cv) (.int .i64 ((j : Int) + 1)) wr) := Lib.hid (HNX.out wr (by rw [HAT.out, HOT.out, HHS.out, decide_eq_false hno]; rfl) hI ht)
          clear hno
          go_wp2_with fail
          go_roundw
          case rel => exact HRK.out
          case measure => simp [intOf]; omega
    · have hlt' : ¬ (k : Int) < (L.length : Int) := by omega
      go_wp2_with fail
      go_ret
      exact ⟨by rw [HR.out, names_all.2 (fun j hj => hall j (by omega))]; rfl, ht⟩
end Go.Proofs.Ytpbknnkobhjjcaa
