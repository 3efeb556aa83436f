/- Lists of numbers as the specification of layer 6 reads them. -/
import Derived.Test.YtpbknnkobhjjcaaRd4
import Derived.Test.YtpbknnkobhjjcaaNumbers
namespace Go.Proofs.Ytpbknnkobhjjcaa
open Go.RowKit
set_option linter.unusedSimpArgs false

def L6Post (res : Except Int (List Int × Nat)) (w : World) (r : Ending) (w' : World) : Prop := (match res with
  | .ok x => ∃ v, r = .returned (.tuple #[v, .int .i64 (x.2 : Int), .int .i64 0]) ∧ RowI w' v x.1
  | .error k => r = .returned (.tuple #[.slice none 0 0, .int .i64 0, .int .i64 k])) ∧ Touch [] w w'
theorem L6Post.err {res : Except Int (List Int × Nat)} {w w' : World} {k : Int} (h : res = .error k) (ht : Touch [] w w') : L6Post res w (.returned (.tuple #[.slice none 0 0, .int .i64 0, .int .i64 k])) w' := by subst h; exact ⟨rfl, ht⟩
theorem L6Post.ok {res : Except Int (List Int × Nat)} {w w' : World} {xs : List Int} {a : Nat} {v : Value} (h : res = .ok (xs, a)) (hv : RowI w' v xs) (ht : Touch [] w w') : L6Post res w (.returned (.tuple #[v, .int .i64 (a : Int), .int .i64 0])) w' := by subst h; exact ⟨⟨v, rfl, hv⟩, ht⟩
def LiRel (w : World) (l : List UInt8) (n : Nat) (res : Except Int (List Int × Nat)) (ta tv ti : Value) (wr : World) : Prop :=
  ∃ (k a : Nat) (xs : List Int), k ≤ n ∧ ti = .int .i64 k ∧ ta = .int .i64 a ∧ xs.length = k ∧ k ≤ a ∧ a ≤ l.length ∧ RowI wr tv xs ∧ Touch [] w wr ∧ (∀ g ∈ blk tv, w.heap.size ≤ g) ∧ res = cont xs (pList l (n - k) a)
set_option maxRecDepth 100000 in
set_option maxHeartbeats 4000000 in
theorem list6_any (v : Value) (l : List UInt8) (limit : Int) (w : World) (hv : Bytes w v l) (hl : l.length ≤ 100000) : Calls Try.prog 49 #[v, .int .i64 limit] w (L6Post (pInts l limit 0) w) := by
  have HU := Lib.hid (count6_any v l limit w hv hl)
  have HER := Lib.hid (fun (w' : World) (k : Int) (h : pInts l limit 0 = .error k) => L6Post.err (w := w) (w' := w') h)
  have HOK := Lib.hid (fun (w' : World) (xs : List Int) (a : Nat) (v : Value) (h : pInts l limit 0 = .ok (xs, a)) => L6Post.ok (w := w) (w' := w') (v := v) h)
  generalize hP : L6Post (pInts l limit 0) w = Post at *
  clear hP
  obtain ⟨A, cap, hvf, hcap, hmax, -⟩ := id hv
  unfold maxLen at hmax
  unfold pInts at HER HOK
  cases hg : pCount l limit 0 with
  | error k =>
    have hk := pCount_err hg
    have bk : (k == 0) = false := by simpa using hk
    have bk2 : (k != 0) = true := by simpa using hk
    rw [hg] at HU HER
    unfold R6Post iv at HU
    simp only at HU HER
    clear hg hk hv HOK
    subst hvf
    go_enter Try.func49, Try.ntmps49
    go_wp2_with fail
    refine HU.out.mono ?_
    rintro r w' ⟨rfl, rfl⟩
    go_wp2_with fail
    go_ret3
    exact HER.out _ _ rfl (Touch.refl _ _)
  | ok x =>
    obtain ⟨x1, x2, x3, x4, x5⟩ := pCount_ok hg
    rw [hg] at HU HER HOK
    unfold R6Post iv at HU
    simp only at HU HER HOK
    clear hg
    obtain ⟨c, a0⟩ := x
    simp only at HU HER HOK x1 x2 x3 x4 x5
    obtain ⟨n, rfl⟩ : ∃ n : Nat, c = (n : Int) := ⟨c.toNat, by omega⟩
    simp only [Int.toNat_natCast] at HER HOK
    have HST : Hid (LiRel w l n (pList l n a0) (.int .i64 a0) (.slice none 0 0) (.int .i64 0) w) := Lib.hid ⟨0, a0, [], by omega, rfl, rfl, rfl, by omega, x5, Own.nil _ _ _, Touch.refl _ _, by simp [blk], by rw [cont_nil]; rfl⟩
    generalize pList l n a0 = res at *
    clear x1 x2 x3 x4 x5
    have HV := Lib.hid hv
    subst hvf
    clear hv
    go_enter Try.func49, Try.ntmps49
    go_wp2_with fail
    refine HU.out.mono ?_
    rintro r w' ⟨rfl, rfl⟩
    go_wp2_with fail
    go_loopw [8, 10, 11] (fun ta tv ti wr => LiRel w l n res ta tv ti wr) (fun _ _ ti _ => n - (intOf ti).toNat)
    case atStart => exact HST.out
    case round =>
      clear HST
      obtain ⟨k, a, xs, hk, rfl, rfl, hxl, hka, hal, hrow, htt, hfr, hres⟩ := hrel
      have HRS := Lib.hid hres
      have HXL := Lib.hid hxl
      have HNew := Lib.hid hfr
      clear hres hxl hfr
      by_cases hlt : k < n
      case neg =>
        have hlt' : ¬ (k : Int) < (n : Int) := by omega
        obtain rfl : k = n := by omega
        have HR1 : Hid (res = .ok (xs, a)) := Lib.hid (by rw [HRS.out, Nat.sub_self]; simp [pList, cont])
        go_wp2_with fail
        go_ret3
        exact HOK.out _ _ _ _ HR1.out hrow htt
      have hlt' : (k : Int) < (n : Int) := by omega
      have HBY : Hid (Bytes wr (sliced A a l.length cap 1) (l.drop a)) := Lib.hid (by
        have h1 := Reads.part (Reads.touch0 HV.out htt) a l.length (by omega) (by omega)
        rw [List.take_of_length_le (by simp)] at h1
        unfold Bytes
        rw [List.map_drop, List.length_drop]
        exact h1)
      have HIN := Lib.hid (int6_any _ (l.drop a) wr HBY.out (by simp; omega))
      unfold sliced at HIN
      simp only [Nat.mul_one] at HIN
      have hca : ¬ cap = a ∨ cap = a := by omega
      cases hp : pInt (l.drop a) 0 with
      | error k1 =>
        have HR1 : Hid (res = .error k1) := Lib.hid (by rw [HRS.out, show n - k = (n - (k + 1)) + 1 by omega, cont_bad l _ a xs k1 (by rw [pInt_sh, hp]; rfl)])
        rw [hp] at HIN
        unfold R6Post iv at HIN
        simp only at HIN
        have hk1 : k1 ≠ 0 := by unfold pInt at hp; cases hq : pGroup (l.drop a) 10 0 0 0 with
          | error e => rw [hq] at hp; cases hp; exact pGroup_err _ _ _ _ _ _ hq
          | ok z => rw [hq] at hp; cases hp
        have bk : (k1 == 0) = false := by simpa using hk1
        have bk2 : (k1 != 0) = true := by simpa using hk1
        clear hk1 hp
        rcases hca with hca | hca
        · rw [if_neg hca] at HIN
          clear hmax HV
          go_wp2_with fail
          refine HIN.out.mono ?_
          rintro r w' ⟨rfl, rfl⟩
          go_wp2_with fail
          go_ret3
          exact HER.out _ _ HR1.out htt
        · subst hca
          simp only [if_true, Nat.sub_self, show l.length - cap = 0 by omega] at HIN
          clear hmax HV
          go_wp2_with fail
          refine HIN.out.mono ?_
          rintro r w' ⟨rfl, rfl⟩
          go_wp2_with fail
          go_ret3
          exact HER.out _ _ HR1.out htt
      | ok y =>
        obtain ⟨y1, y2⟩ := y
        obtain ⟨p1, p2, p3⟩ := pInt_ok hp
        simp only [List.length_drop] at p1 p2 p3
        have HR1 : Hid (res = cont (xs ++ [y1]) (pList l (n - (k + 1)) (a + y2))) := Lib.hid (by rw [HRS.out, show n - k = (n - (k + 1)) + 1 by omega, cont_step l _ a xs (y1, a + y2) (by rw [pInt_sh, hp]; rfl)])
        rw [hp] at HIN
        unfold R6Post iv at HIN
        simp only at HIN
        have hxs : xs.length ≤ 100000 := by rw [HXL.out]; omega
        have hsum : a + y2 ≤ 100000 := by omega
        have hsum2 : a + y2 ≤ l.length := by omega
        have HF := Lib.hid p3
        have hk2 : k ≤ 100000 := by omega
        clear hp p3
        rcases hca with hca | hca
        · rw [if_neg hca] at HIN
          clear hmax HV
          go_wp2_with fail
          refine HIN.out.mono ?_
          rintro r w' ⟨rfl, rfl⟩
          go_wp2_with (at_builtin; go_must (refine app_new elem_int hrow [Value.int .i64 y1] 1 1 (by omega) (by unfold maxLen; omega) ?_); intro v4 w4 ho4 ht4 hf4)
          go_roundw
          case rel =>
            refine ⟨k + 1, a + y2, xs ++ [y1], by omega, by go_num, by go_num, by simp [HXL.out], by omega, hsum2, RowI.snoc ho4, ?_, ?_, HR1.out⟩
            · exact htt.step ht4 (fun m hm => .inr (HNew.out m hm))
            · intro g hg
              rcases hf4 g hg with h5 | h5
              · exact HNew.out g h5
              · have := htt.size; omega
          case measure => simp [intOf]; omega
        · exfalso; omega
end Go.Proofs.Ytpbknnkobhjjcaa
