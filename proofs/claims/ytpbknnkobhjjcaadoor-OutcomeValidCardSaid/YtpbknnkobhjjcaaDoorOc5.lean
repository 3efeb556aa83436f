/- Sums of payments, winners, places and bands: the small searches. -/
import Derived.Test.YtpbknnkobhjjcaaDoorOc4
namespace Go.Proofs.YtpbknnkobhjjcaaDoor
open Go.RowKit
set_option linter.unusedSimpArgs false

def sumC : List Tx → Int
  | [] => 0
  | x :: xs => x.c + sumC xs
def ixFrom (s : Int) : Nat → List Tx → Int
  | _, [] => -1
  | k, x :: xs => if x.a = s then (k : Int) else ixFrom s (k + 1) xs
def bandOf (c : Int) : Int := if c ≤ 6 then 1 else if c ≤ 13 then 2 else 3
def onB (s : Int) : List Cx → Int
  | [] => 0
  | x :: xs => if x.a = s then bandOf x.b else onB s xs
def Pays (l : List Tx) : Prop := ∀ x ∈ l, 0 ≤ x.c ∧ x.c ≤ 1000000000
theorem ret_i {a b : Int} (h : a = b) : Ending.returned (.int .i64 a) = .returned (.int .i64 b) := by rw [h]
theorem ret_2 {a b c : Int} (h : a = b) : Ending.returned (.tuple #[.int .i64 a, .int .i64 c]) = .returned (.tuple #[.int .i64 b, .int .i64 c]) := by rw [h]
theorem ok_pays {l : List Tx} : ∀ {last : Int}, okList wBad Tx.a last l = true → Pays l := by
  induction l with
  | nil => intro last _ x hx; cases hx
  | cons y l ih =>
    intro last h x hx
    simp only [okList] at h
    split at h
    · cases h
    · rename_i hb
      rcases List.mem_cons.1 hx with rfl | hx
      · unfold wBad at hb; omega
      · exact ih h x hx
theorem sum_bound {l : List Tx} (h : Pays l) : 0 ≤ sumC l ∧ sumC l ≤ l.length * 1000000000 := by
  induction l with
  | nil => simp [sumC]
  | cons x l ih =>
    have h1 := h x (by simp)
    have h2 := ih (fun y hy => h y (by simp [hy]))
    simp only [sumC, List.length_cons]
    omega
theorem sum_step {l : List Tx} {k : Nat} (hk : k < l.length) : sumC (l.drop k) = l[k].c + sumC (l.drop (k + 1)) := by rw [List.drop_eq_getElem_cons hk]; rfl
theorem ix_step {l : List Tx} {s : Int} {k : Nat} (hk : k < l.length) : ixFrom s k (l.drop k) = if l[k].a = s then (k : Int) else ixFrom s (k + 1) (l.drop (k + 1)) := by rw [List.drop_eq_getElem_cons hk]; rfl
theorem on_step {l : List Cx} {s : Int} {k : Nat} (hk : k < l.length) : onB s (l.drop k) = if l[k].a = s then bandOf l[k].b else onB s (l.drop (k + 1)) := by rw [List.drop_eq_getElem_cons hk]; rfl
theorem has_step {l : List Int} {s : Int} {k : Nat} (hk : k < l.length) : decide (s ∈ l.drop k) = if l[k] = s then true else decide (s ∈ l.drop (k + 1)) := by
  by_cases h : l[k] = s
  · rw [if_pos h, List.drop_eq_getElem_cons hk, h]
    simp
  · rw [if_neg h, List.drop_eq_getElem_cons hk]
    have : s ≠ l[k] := fun e => h e.symm
    simp only [List.mem_cons, this, false_or]
def SumRel (l : List Tx) (tot : Int) (tn ti : Value) : Prop := ∃ (k : Nat) (n : Int), k ≤ l.length ∧ ti = .int .i64 k ∧ tn = .int .i64 n ∧ 0 ≤ n ∧ n ≤ k * 1000000000 ∧ tot = n + sumC (l.drop k)
set_option maxRecDepth 100000 in
set_option maxHeartbeats 4000000 in
theorem refSum_any (v : Value) (l : List Tx) (w : World) (hv : Trips w v l) (hl : l.length ≤ 1000) (hp : Pays l) : Calls Tryd.prog 23 #[v] w fun r w' => r = .returned (.int .i64 (sumC l)) ∧ w = w' := by
  obtain ⟨A, cap, rfl⟩ := hv.form
  obtain ⟨hc1, hc2⟩ := hv.cap
  have hst : SumRel l (sumC l) (.int .i64 0) (.int .i64 0) := ⟨0, 0, by omega, rfl, rfl, by omega, by omega, by simp⟩
  generalize sumC l = tot at *
  go_enter Tryd.func23, Tryd.ntmps23
  go_wp2_with fail
  go_loop [3, 4] (fun tn ti => SumRel l tot tn ti) (fun _ ti => l.length - (intOf ti).toNat)
  case atStart => exact hst
  case round =>
    clear hst
    obtain ⟨k, n, hk, rfl, rfl, hn0, hn1, htot⟩ := hrel
    have HT := Lib.hid htot
    clear htot
    by_cases hlt : k < l.length
    · have hlt' : (k : Int) < (l.length : Int) := by omega
      obtain ⟨b, off, rfl, hb⟩ := hv.addr hlt
      obtain ⟨c0, c1, c2⟩ := Trips.at_ hv hlt
      obtain ⟨p1, p2⟩ := hp l[k] (List.getElem_mem hlt)
      have HS := Lib.hid (sum_step hlt)
      generalize hxk : l[k] = x at *
      obtain ⟨xa, xb, xc⟩ := x
      simp only at c0 c1 c2 p1 p2 HS
      have HPP := Lib.hid hp
      clear hxk hv hp
      go_wp2_with fail
      go_round
      case rel => exact ⟨k + 1, n + xc, by omega, by go_num, rfl, by omega, by omega, by rw [HT.out, HS.out]; omega⟩
      case measure => simp [intOf]; omega
    · have hlt' : ¬ (k : Int) < (l.length : Int) := by omega
      clear hp
      go_wp2_with fail
      go_ret
      exact ⟨ret_i (by rw [HT.out, List.drop_eq_nil_of_le (by omega)]; simp [sumC]), rfl⟩
set_option maxRecDepth 100000 in
set_option maxHeartbeats 4000000 in
theorem refWinner_any (v : Value) (l : List Tx) (s : Int) (w : World) (hv : Trips w v l) (hl : l.length ≤ 100000) : Calls Tryd.prog 24 #[v, .int .i64 s] w fun r w' => r = .returned (.int .i64 (ixFrom s 0 l)) ∧ w = w' := by
  obtain ⟨A, cap, rfl⟩ := hv.form
  obtain ⟨hc1, hc2⟩ := hv.cap
  have hst : (ixFrom s 0 l) = (ixFrom s 0 l) := rfl
  generalize hres : (ixFrom s 0 l) = res at *
  clear hst
  go_enter Tryd.func24, Tryd.ntmps24
  go_wp2_with fail
  go_loop [5] (fun ti => ∃ k : Nat, k ≤ l.length ∧ ti = .int .i64 k ∧ Hid (res = ixFrom s k (l.drop k))) (fun ti => l.length - (intOf ti).toNat)
  case atStart => exact ⟨0, by omega, rfl, Lib.hid (by rw [← hres]; rfl)⟩
  case round =>
    clear hres
    obtain ⟨k, hk, rfl, HT⟩ := hrel
    by_cases hlt : k < l.length
    · have hlt' : (k : Int) < (l.length : Int) := by omega
      obtain ⟨b, off, rfl, hb⟩ := hv.addr hlt
      obtain ⟨c0, c1, c2⟩ := Trips.at_ hv hlt
      have HS := Lib.hid (ix_step hlt (s := s))
      generalize hxk : l[k] = x at *
      obtain ⟨xa, xb, xc⟩ := x
      simp only at c0 c1 c2 HS
      clear hxk hv
      by_cases hx : xa = s
      · have hx1 : (xa == s) = true := by simpa using hx
        have hx2 : (xa != s) = false := by simp [hx]
        have HX := Lib.hid hx
        clear hx
        go_wp2_with fail
        go_ret
        exact ⟨ret_i (by rw [HT.out, HS.out, if_pos HX.out]), rfl⟩
      · have hx1 : (xa == s) = false := by simpa using hx
        have hx2 : (xa != s) = true := by simpa using hx
        have HX := Lib.hid hx
        clear hx
        go_wp2_with fail
        go_round
        case rel => exact ⟨k + 1, by omega, by go_num, Lib.hid (by rw [HT.out, HS.out, if_neg HX.out])⟩
        case measure => simp [intOf]; omega
    · have hlt' : ¬ (k : Int) < (l.length : Int) := by omega
      go_wp2_with fail
      go_ret
      exact ⟨ret_i (by rw [HT.out, List.drop_eq_nil_of_le (by omega)]; rfl), rfl⟩
set_option maxRecDepth 100000 in
set_option maxHeartbeats 4000000 in
theorem refHas_any (v : Value) (l : List Int) (s : Int) (w : World) (hv : Nums w v l) (hl : l.length ≤ 100000) : Calls Tryd.prog 30 #[v, .int .i64 s] w fun r w' => r = .returned (.bool (decide (s ∈ l))) ∧ w = w' := by
  obtain ⟨A, cap, rfl⟩ := hv.form
  obtain ⟨hc1, hc2⟩ := hv.cap
  have hst : (decide (s ∈ l)) = (decide (s ∈ l)) := rfl
  generalize hres : (decide (s ∈ l)) = res at *
  clear hst
  go_enter Tryd.func30, Tryd.ntmps30
  go_wp2_with fail
  go_loop [5] (fun ti => ∃ k : Nat, k ≤ l.length ∧ ti = .int .i64 k ∧ Hid (res = decide (s ∈ l.drop k))) (fun ti => l.length - (intOf ti).toNat)
  case atStart => exact ⟨0, by omega, rfl, Lib.hid (by rw [← hres]; rfl)⟩
  case round =>
    clear hres
    obtain ⟨k, hk, rfl, HT⟩ := hrel
    by_cases hlt : k < l.length
    · have hlt' : (k : Int) < (l.length : Int) := by omega
      obtain ⟨b, off, rfl, hb⟩ := hv.addr hlt
      obtain c0 := Nums.at_ hv hlt
      have HS := Lib.hid (has_step hlt (s := s))
      generalize hxk : l[k] = xa at *
      clear hxk hv
      by_cases hx : xa = s
      · have hx1 : (xa == s) = true := by simpa using hx
        have hx2 : (xa != s) = false := by simp [hx]
        have HX := Lib.hid hx
        clear hx
        go_wp2_with fail
        go_ret
        exact ⟨ret_b (by rw [HT.out, HS.out, if_pos HX.out]), rfl⟩
      · have hx1 : (xa == s) = false := by simpa using hx
        have hx2 : (xa != s) = true := by simpa using hx
        have HX := Lib.hid hx
        clear hx
        go_wp2_with fail
        go_round
        case rel => exact ⟨k + 1, by omega, by go_num, Lib.hid (by rw [HT.out, HS.out, if_neg HX.out])⟩
        case measure => simp [intOf]; omega
    · have hlt' : ¬ (k : Int) < (l.length : Int) := by omega
      go_wp2_with fail
      go_ret
      exact ⟨ret_b (by rw [HT.out, List.drop_eq_nil_of_le (by omega)]; simp), rfl⟩
set_option maxRecDepth 100000 in
set_option maxHeartbeats 4000000 in
theorem refOn_any (v : Value) (l : List Cx) (s : Int) (w : World) (hv : Pairs w v l) (hl : l.length ≤ 100000) : Calls Tryd.prog 31 #[v, .int .i64 s] w fun r w' => r = .returned (.int .i64 (onB s l)) ∧ w = w' := by
  obtain ⟨A, cap, rfl⟩ := hv.form
  obtain ⟨hc1, hc2⟩ := hv.cap
  have hst : (onB s l) = (onB s l) := rfl
  generalize hres : (onB s l) = res at *
  clear hst
  go_enter Tryd.func31, Tryd.ntmps31
  go_wp2_with fail
  go_loop [5] (fun ti => ∃ k : Nat, k ≤ l.length ∧ ti = .int .i64 k ∧ Hid (res = onB s (l.drop k))) (fun ti => l.length - (intOf ti).toNat)
  case atStart => exact ⟨0, by omega, rfl, Lib.hid (by rw [← hres]; rfl)⟩
  case round =>
    clear hres
    obtain ⟨k, hk, rfl, HT⟩ := hrel
    by_cases hlt : k < l.length
    · have hlt' : (k : Int) < (l.length : Int) := by omega
      obtain ⟨b, off, rfl, hb⟩ := hv.addr hlt
      obtain ⟨c0, c1⟩ := Pairs.at_ hv hlt
      have HS := Lib.hid (on_step hlt (s := s))
      generalize hxk : l[k] = x at *
      obtain ⟨xa, xb⟩ := x
      simp only at c0 c1 HS
      clear hxk hv
      by_cases hx : xa = s
      · have hx1 : (xa == s) = true := by simpa using hx
        have hx2 : (xa != s) = false := by simp [hx]
        have HX := Lib.hid hx
        clear hx
        by_cases h6 : xb ≤ 6
        · go_wp2_with fail
          go_ret
          exact ⟨ret_i (by rw [HT.out, HS.out, if_pos HX.out]; unfold bandOf; rw [if_pos h6]), rfl⟩
        · by_cases h13 : xb ≤ 13
          · go_wp2_with fail
            go_ret
            exact ⟨ret_i (by rw [HT.out, HS.out, if_pos HX.out]; unfold bandOf; rw [if_neg (by omega), if_pos h13]), rfl⟩
          · go_wp2_with fail
            go_ret
            exact ⟨ret_i (by rw [HT.out, HS.out, if_pos HX.out]; unfold bandOf; rw [if_neg (by omega), if_neg (by omega)]), rfl⟩
      · have hx1 : (xa == s) = false := by simpa using hx
        have hx2 : (xa != s) = true := by simpa using hx
        have HX := Lib.hid hx
        clear hx
        go_wp2_with fail
        go_round
        case rel => exact ⟨k + 1, by omega, by go_num, Lib.hid (by rw [HT.out, HS.out, if_neg HX.out])⟩
        case measure => simp [intOf]; omega
    · have hlt' : ¬ (k : Int) < (l.length : Int) := by omega
      go_wp2_with fail
      go_ret
      exact ⟨ret_i (by rw [HT.out, List.drop_eq_nil_of_le (by omega)]; rfl), rfl⟩
set_option maxRecDepth 100000 in
set_option maxHeartbeats 4000000 in
theorem range1_any (w : World) : Calls Tryd.prog 52 #[.int .i64 1] w fun r w' => r = .returned (.tuple #[.int .i64 2, .int .i64 6, .int .i64 0]) ∧ w = w' := by
  go_enter Tryd.func52, Tryd.ntmps52
  go_wp2_with fail
  go_ret3
  exact ⟨rfl, rfl⟩
set_option maxRecDepth 100000 in
set_option maxHeartbeats 4000000 in
theorem range2_any (w : World) : Calls Tryd.prog 52 #[.int .i64 2] w fun r w' => r = .returned (.tuple #[.int .i64 7, .int .i64 13, .int .i64 0]) ∧ w = w' := by
  go_enter Tryd.func52, Tryd.ntmps52
  go_wp2_with fail
  go_ret3
  exact ⟨rfl, rfl⟩
set_option maxRecDepth 100000 in
set_option maxHeartbeats 4000000 in
theorem range3_any (w : World) : Calls Tryd.prog 52 #[.int .i64 3] w fun r w' => r = .returned (.tuple #[.int .i64 14, .int .i64 51, .int .i64 0]) ∧ w = w' := by
  go_enter Tryd.func52, Tryd.ntmps52
  go_wp2_with fail
  go_ret3
  exact ⟨rfl, rfl⟩
set_option maxRecDepth 100000 in
set_option maxHeartbeats 4000000 in
theorem bandOf_any (c : Int) (w : World) (h1 : 2 ≤ c) (h2 : c ≤ 51) : Calls Tryd.prog 45 #[.int .i64 c] w fun r w' => r = .returned (.tuple #[.int .i64 (bandOf c), .int .i64 0]) ∧ w = w' := by
  have HB : Hid (∀ k : Nat, 1 ≤ k → k ≤ 3 → (k = 1 → c ≤ 6 → bandOf c = 1) ∧ (k = 2 → 6 < c → c ≤ 13 → bandOf c = 2) ∧ (k = 3 → 13 < c → bandOf c = 3)) := Lib.hid (fun k _ _ => by unfold bandOf; exact ⟨fun _ h => by rw [if_pos h], fun _ h h' => by rw [if_neg (by omega), if_pos h'], fun _ h => by rw [if_neg (by omega), if_neg (by omega)]⟩)
  generalize bandOf c = q at *
  go_enter Tryd.func45, Tryd.ntmps45
  go_wp2_with fail
  go_loop [4] (fun ti => ∃ k : Nat, 1 ≤ k ∧ k ≤ 3 ∧ ti = .int .i64 k ∧ (k = 2 → 6 < c) ∧ (k = 3 → 13 < c)) (fun ti => 4 - (intOf ti).toNat)
  case atStart => exact ⟨1, by omega, by omega, rfl, by omega, by omega⟩
  case round =>
    obtain ⟨k, hk1, hk3, rfl, g2, g3⟩ := hrel
    have hB := HB.out k hk1 hk3
    have hcase : k = 1 ∨ k = 2 ∨ k = 3 := by omega
    rcases hcase with rfl | rfl | rfl
    · have b1 := hB.1 rfl
      have HQ := Lib.hid b1
      clear hB b1 g2 g3 HB
      by_cases h6 : c ≤ 6
      · go_wp2_with (go_at_call 52; refine (range1_any _).mono ?_; rintro r w' ⟨rfl, rfl⟩)
        go_ret2
        exact ⟨ret_2 (HQ.out h6).symm, rfl⟩
      · go_wp2_with (go_at_call 52; refine (range1_any _).mono ?_; rintro r w' ⟨rfl, rfl⟩)
        go_round
        case rel => exact ⟨2, by omega, by omega, rfl, by omega, by omega⟩
        case measure => simp [intOf]
    · have b1 := hB.2.1 rfl
      have h6 := g2 rfl
      have HQ := Lib.hid b1
      clear hB b1 g2 g3 HB
      by_cases h13 : c ≤ 13
      · go_wp2_with (go_at_call 52; refine (range2_any _).mono ?_; rintro r w' ⟨rfl, rfl⟩)
        go_ret2
        exact ⟨ret_2 (HQ.out h6 h13).symm, rfl⟩
      · go_wp2_with (go_at_call 52; refine (range2_any _).mono ?_; rintro r w' ⟨rfl, rfl⟩)
        go_round
        case rel => exact ⟨3, by omega, by omega, rfl, by omega, by omega⟩
        case measure => simp [intOf]
    · have b1 := hB.2.2 rfl
      have h13 := g3 rfl
      have HQ := Lib.hid b1
      clear hB b1 g2 g3 HB
      go_wp2_with (go_at_call 52; refine (range3_any _).mono ?_; rintro r w' ⟨rfl, rfl⟩)
      go_ret2
      exact ⟨ret_2 (HQ.out h13).symm, rfl⟩
end Go.Proofs.YtpbknnkobhjjcaaDoor
