/- Which bids are valid for a station; which lists of bids are. -/
import Derived.Test.YtpbknnkobhjjcaaValid
namespace Go.Proofs.Ytpbknnkobhjjcaa
open Go.RowKit
set_option linter.unusedSimpArgs false

def forB (x : Bx) (h c : Int) : Bool := bidB x && x.names.all (allowB h c)
def AlRel (w : World) (p : Nat) (cs : Array Value) (l : List Int) (f : Int → Bool) (v ti : Value) (wr : World) : Prop := ∃ k : Nat, k ≤ l.length ∧ ti = .int .i64 k ∧ (l.take k).all f = true ∧ Ints wr v l ∧ Blk wr p 91 cs ∧ Touch [] w wr
theorem AlRel.next {w w' : World} {p : Nat} {cs : Array Value} {l : List Int} {f : Int → Bool} {v : Value} {k : Nat} (hk : k < l.length) (h : (l.take k).all f = true) (hn : f l[k] = true) (hI : Ints w' v l) (hB : Blk w' p 91 cs) (ht : Touch [] w w') : AlRel w p cs l f v (.int .i64 ((k : Int) + 1)) w' :=
  ⟨k + 1, hk, by go_num, by rw [List.take_succ_eq_append_getElem hk, List.all_append, h]; simpa using hn, hI, hB, ht⟩
theorem all_bad {l : List Int} {f : Int → Bool} {k : Nat} (hk : k < l.length) (h : f l[k] = false) : l.all f = false := by
  rw [List.all_eq_false]
  exact ⟨l[k], List.getElem_mem hk, by rw [h]; simp⟩

set_option maxRecDepth 100000 in
set_option maxHeartbeats 4000000 in
theorem validfor_any (x : Bx) (h c : Int) (w : World) (hx : x.Ok w) (hl : x.fb.length ≤ 1000) : Calls Try.prog 63 #[.agg #[I x.st, I x.pf, x.fv], .int .i64 h, .int .i64 c] w fun r w' => r = .returned (.bool (forB x h c)) ∧ Touch [] w w' := by
  obtain ⟨A, cap, hfv, -⟩ := id hx.2.2.1
  have hta := (Touch.refl [] w).alloc (.cells #[I x.st, I x.pf, x.fv] 91)
  have hblk := Blk.new w 91 #[I x.st, I x.pf, x.fv]
  have HNM := Lib.hid (fun (W : World) (ht : Touch [] w W) => named_any x W (hx.touch0 ht) hl)
  have HVA := Lib.hid (fun (W : World) (ht : Touch [] w W) => bvalid_any x W (hx.touch0 ht))
  have HFB : Hid (forB x h c = (bidB x && x.names.all (allowB h c))) := Lib.hid rfl
  generalize forB x h c = res at *
  generalize bidB x = bb at *
  generalize x.names = L at *
  obtain ⟨st, pf, fv, fb⟩ := x
  simp only at hfv hta hblk HNM HVA hl ⊢
  subst hfv
  clear hx
  unfold I at *
  cases bb with
  | false =>
    have hres : res = false := by rw [HFB.out]; rfl
    subst hres
    go_enter Try.func63, Try.ntmps63
    go_wp2_with fail
    refine (HVA.out _ hta).mono ?_
    rintro r w1 ⟨rfl, ht1⟩
    go_wp2_with fail
    go_ret
    exact ⟨rfl, hta.then0 ht1⟩
  | true =>
  go_enter Try.func63, Try.ntmps63
  go_wp2_with fail
  refine (HVA.out _ hta).mono ?_
  rintro r w1 ⟨rfl, ht1⟩
  have hB1 := hblk.touch ht1 (by simp)
  have ht01 := hta.then0 ht1
  have k0 := hB1.cell 0
  have k1 := hB1.cell 1
  have k2 := hB1.cell 2
  simp at k0 k1 k2
  clear hblk hta ht1
  go_wp2_with fail
  refine (HNM.out _ ht01).mono ?_
  rintro r w2 ⟨v, rfl, hI, ht2⟩
  have hB2 := hB1.touch ht2 (by simp)
  have ht02 := ht01.then0 ht2
  have hLm : L.length ≤ 9223372036854775807 := by obtain ⟨_, _, _, q1, q2, _⟩ := id hI.1; unfold maxLen at q2; omega
  obtain ⟨Av, cv, hvf, -⟩ := id hI.1
  subst hvf
  clear hB1 ht01 ht2 k0 k1 k2
  go_wp2_with fail
  go_loopw [15] (fun ti wr => AlRel w w.heap.size #[.int .i64 st, .int .i64 pf, .slice A fb.length cap] L (allowB h c) (.slice Av L.length cv) ti wr) (fun ti _ => L.length - (intOf ti).toNat)
  case atStart => exact ⟨0, by omega, rfl, rfl, hI, hB2, ht02⟩
  case round =>
    clear hI hB2 ht02
    obtain ⟨k, hk, rfl, hall, hI, hB, ht⟩ := hrel
    have HALL := Lib.hid hall
    clear hall
    by_cases hlt : k < L.length
    · have hlt' : (k : Int) < (L.length : Int) := by omega
      obtain ⟨b, off, cc, e, hc, hc1, hc2⟩ := hI.at hlt
      injection e with e1 e4 e2
      subst e1 e2
      clear e4
      have HNX := Lib.hid (fun hn => AlRel.next hlt HALL.out hn hI hB ht)
      have HNB := Lib.hid (fun hn => all_bad (f := allowB h c) hlt hn)
      have HAW := Lib.hid (allowed_any h c L[k] wr)
      generalize allowB h c L[k] = ab at *
      generalize L[k] = y at *
      go_wp2_with fail
      refine HAW.out.mono ?_
      rintro r w' ⟨rfl, rfl⟩
      cases ab with
      | false =>
        go_wp2_with fail
        go_ret
        exact ⟨by rw [HFB.out, HNB.out (by trivial)]; simp, ht⟩
      | true =>
        go_wp2_with fail
        go_roundw
        case rel => exact HNX.out (by trivial)
        case measure => simp [intOf]; omega
    · have hlt' : ¬ (k : Int) < (L.length : Int) := by omega
      have hA : L.all (allowB h c) = true := by have := HALL.out; rwa [List.take_of_length_le (by omega)] at this
      go_wp2_with fail
      go_ret
      exact ⟨by rw [HFB.out, hA]; rfl, ht⟩
set_option maxRecDepth 100000 in
set_option maxHeartbeats 4000000 in
theorem rvalidfor_any (x : Bx) (h c : Int) (w : World) (hx : x.Ok w) (hl : x.fb.length ≤ 1000) : Calls Try.prog 64 #[.agg #[I x.st, I x.pf, x.fv], .int .i64 h, .int .i64 c] w fun r w' => r = .returned (.bool (forB x h c)) ∧ Touch [] w w' := by
  obtain ⟨A, cap, hfv, -⟩ := id hx.2.2.1
  have hta := (Touch.refl [] w).alloc (.cells #[I x.st, I x.pf, x.fv] 91)
  have hblk := Blk.new w 91 #[I x.st, I x.pf, x.fv]
  have HNM := Lib.hid (fun (W : World) (ht : Touch [] w W) => rnamed_any x W (hx.touch0 ht) hl)
  have HVA := Lib.hid (fun (W : World) (ht : Touch [] w W) => rbvalid_any x W (hx.touch0 ht))
  have HFB : Hid (forB x h c = (bidB x && x.names.all (allowB h c))) := Lib.hid rfl
  generalize forB x h c = res at *
  generalize bidB x = bb at *
  generalize x.names = L at *
  obtain ⟨st, pf, fv, fb⟩ := x
  simp only at hfv hta hblk HNM HVA hl ⊢
  subst hfv
  clear hx
  unfold I at *
  go_enter Try.func64, Try.ntmps64
  go_wp2_with fail
  refine (HNM.out _ hta).mono ?_
  rintro r w2 ⟨v, rfl, hI, ht2⟩
  have hB2 := hblk.touch ht2 (by simp)
  have ht02 := hta.then0 ht2
  have hLm : L.length ≤ 9223372036854775807 := by obtain ⟨_, _, _, q1, q2, _⟩ := id hI.1; unfold maxLen at q2; omega
  obtain ⟨Av, cv, hvf, -⟩ := id hI.1
  subst hvf
  clear hblk hta ht2
  go_wp2_with fail
  go_loopw [8] (fun ti wr => AlRel w w.heap.size #[.int .i64 st, .int .i64 pf, .slice A fb.length cap] L (allowB h c) (.slice Av L.length cv) ti wr) (fun ti _ => L.length - (intOf ti).toNat)
  case atStart => exact ⟨0, by omega, rfl, rfl, hI, hB2, ht02⟩
  case round =>
    clear hI hB2 ht02
    obtain ⟨k, hk, rfl, hall, hI, hB, ht⟩ := hrel
    have HALL := Lib.hid hall
    clear hall
    by_cases hlt : k < L.length
    · have hlt' : (k : Int) < (L.length : Int) := by omega
      obtain ⟨b, off, cc, e, hc, hc1, hc2⟩ := hI.at hlt
      injection e with e1 e4 e2
      subst e1 e2
      clear e4
      have HNX := Lib.hid (fun hn => AlRel.next hlt HALL.out hn hI hB ht)
      have HNB := Lib.hid (fun hn => all_bad (f := allowB h c) hlt hn)
      have HAW := Lib.hid (rallowed_any h c L[k] wr)
      generalize allowB h c L[k] = ab at *
      generalize L[k] = y at *
      go_wp2_with fail
      refine HAW.out.mono ?_
      rintro r w' ⟨rfl, rfl⟩
      cases ab with
      | false =>
        go_wp2_with fail
        go_ret
        exact ⟨by rw [HFB.out, HNB.out (by trivial)]; simp, ht⟩
      | true =>
        go_wp2_with fail
        go_roundw
        case rel => exact HNX.out (by trivial)
        case measure => simp [intOf]; omega
    · have hlt' : ¬ (k : Int) < (L.length : Int) := by omega
      have hA : L.all (allowB h c) = true := by have := HALL.out; rwa [List.take_of_length_le (by omega)] at this
      have k0 := hB.cell 0
      have k1 := hB.cell 1
      have k2 := hB.cell 2
      simp at k0 k1 k2
      go_wp2_with fail
      refine (HVA.out _ ht).mono ?_
      rintro r w3 ⟨rfl, ht3⟩
      go_wp2_with fail
      go_ret
      exact ⟨by rw [HFB.out, hA]; simp, ht.then0 ht3⟩
end Go.Proofs.Ytpbknnkobhjjcaa
