/- The values of the laws of layer 6: the encoding of one; which lists are too large. -/
import Derived.Test.YtpbknnkobhjjcaaVals
namespace Go.Proofs.Ytpbknnkobhjjcaa
open Go.RowKit

theorem Own.lit (w : World) (e : TypeId) (size n : Nat) (xs : List Value) (hl : xs.length = n * size) (hn : n ≤ maxLen) : Own (w.alloc (.cells xs.toArray e)) e size (.slice (some ⟨w.heap.size, 0, none⟩) n n) n xs :=
  ⟨hl, .inr ⟨w.heap.size, n, xs.toArray, rfl, Nat.zero_le _, heap_alloc_new w _, Nat.le_refl _, hn, by simpa using hl, by simp [← hl]⟩⟩

theorem Row.one' (w : World) (m : Nat) (hm : w.heap.size = m) (x : UInt8) : Row (w.alloc (.cells #[B x] 5)) (.slice (some ⟨m, 0, none⟩) 1 1) [x] := by
  subst hm
  exact Own.lit w _ 1 1 [B x] rfl (by simp [maxLen])

def vBad (x : Vx) : Bool := x.kind.toNat % 6 == 0 && decide (x.n < 0)
def vEnc (x : Vx) : List UInt8 :=
  if x.kind.toNat % 6 = 0 then grp x.n.toNat else if x.kind.toNat % 6 = 1 then grp (fold x.n) else if x.kind.toNat % 6 = 2 then [if x.n != 0 then 1 else 0]
  else if x.kind.toNat % 6 = 3 then grp x.text.length ++ x.text else if x.kind.toNat % 6 = 4 then grp x.text.length ++ x.text else grp x.list.length ++ encs x.list
def vForm (x : Vx) : List UInt8 := if vBad x then [] else vEnc x
def Vx.Small (x : Vx) : Prop := x.text.length ≤ 200 ∧ x.list.length ≤ 50

theorem enc_len (x : Vx) (h : x.Small) : (vEnc x).length ≤ 520 := by
  obtain ⟨h1, h2⟩ := h
  have a := grp_len x.n.toNat
  have b := grp_len (fold x.n)
  have c := grp_len x.text.length
  have d := grp_len x.list.length
  have e := encs_len x.list
  unfold vEnc
  repeat' split
  all_goals (try simp only [List.length_append, List.length_cons, List.length_nil])
  all_goals omega
theorem form_len (x : Vx) (h : x.Small) : (vForm x).length ≤ 520 := by
  unfold vForm
  split
  · simp
  · exact enc_len x h
theorem put_fits (s : WS) (enc : List UInt8) (h0 : s.1 = 0) (hl : s.2.length + enc.length ≤ 65536) : wPut s enc = (0, s.2 ++ enc) := by unfold wPut; rw [if_pos h0, if_pos hl]
theorem wVal_ok (bs : List UInt8) (x : Vx) (hx : vBad x = false) (hs : bs.length + (vEnc x).length ≤ 65536) : wVal (0, bs) x = (0, bs ++ vEnc x) := by
  unfold vBad at hx
  unfold vEnc at hs ⊢
  unfold wVal
  by_cases h0 : x.kind.toNat % 6 = 0
  · rw [if_pos h0] at hs ⊢
    rw [if_pos h0]
    have hn : ¬ x.n < 0 := by simp [h0] at hx; omega
    unfold wUint
    rw [if_neg hn]
    exact put_fits _ _ rfl hs
  · rw [if_neg h0] at hs ⊢
    rw [if_neg h0]
    by_cases h1 : x.kind.toNat % 6 = 1
    · rw [if_pos h1] at hs ⊢
      rw [if_pos h1]
      exact put_fits _ _ rfl hs
    · rw [if_neg h1] at hs ⊢
      rw [if_neg h1]
      by_cases h2 : x.kind.toNat % 6 = 2
      · rw [if_pos h2] at hs ⊢
        rw [if_pos h2]
        exact put_fits _ _ rfl hs
      · rw [if_neg h2] at hs ⊢
        rw [if_neg h2]
        by_cases h3 : x.kind.toNat % 6 = 3
        · rw [if_pos h3] at hs ⊢
          rw [if_pos h3]
          exact put_fits _ _ rfl hs
        · rw [if_neg h3] at hs ⊢
          rw [if_neg h3]
          by_cases h4 : x.kind.toNat % 6 = 4
          · rw [if_pos h4] at hs ⊢
            rw [if_pos h4]
            exact put_fits _ _ rfl hs
          · rw [if_neg h4] at hs ⊢
            rw [if_neg h4]
            exact put_fits _ _ rfl hs
theorem wVal_bad (bs : List UInt8) (x : Vx) (hx : vBad x = true) : wVal (0, bs) x = (2, bs) := by
  unfold vBad at hx
  simp at hx
  unfold wVal wUint wErr
  rw [if_pos hx.1, if_pos hx.2, if_pos rfl]
theorem wVal_err (s : WS) (x : Vx) (h : ¬ s.1 = 0) : wVal s x = s := by
  unfold wVal
  rw [wUint_bad s _ h]
  unfold wInt wBool wBytes wInts
  simp only [wPut_bad s _ h, ite_self]
theorem fold_err (xs : List Vx) (s : WS) (h : ¬ s.1 = 0) : xs.foldl wVal s = s := by
  induction xs with
  | nil => rfl
  | cons x xs ih => rw [List.foldl_cons, wVal_err s x h, ih]
theorem fold_ok : ∀ (xs : List Vx) (bs : List UInt8), (∀ x ∈ xs, x.Small) → bs.length + 520 * xs.length ≤ 65536 → xs.any vBad = false → xs.foldl wVal (0, bs) = (0, bs ++ xs.flatMap vForm)
  | [], bs, _, _, _ => by simp
  | x :: xs, bs, hs, hl, hb => by
    rw [List.any_cons, Bool.or_eq_false_iff] at hb
    have he := enc_len x (hs x (by simp))
    simp only [List.length_cons] at hl
    have hf : vForm x = vEnc x := by unfold vForm; rw [hb.1]; rfl
    rw [List.foldl_cons, wVal_ok bs x hb.1 (by omega), fold_ok xs _ (fun y hy => hs y (by simp [hy])) (by rw [List.length_append]; omega) hb.2, List.flatMap_cons, List.append_assoc, hf]
theorem fold_bad : ∀ (xs : List Vx) (bs : List UInt8), (∀ x ∈ xs, x.Small) → bs.length + 520 * xs.length ≤ 65536 → xs.any vBad = true → (xs.foldl wVal (0, bs)).1 = 2
  | [], bs, _, _, h => by simp at h
  | x :: xs, bs, hs, hl, hb => by
    have he := enc_len x (hs x (by simp))
    simp only [List.length_cons] at hl
    rw [List.foldl_cons]
    by_cases h : vBad x = true
    · rw [wVal_bad bs x h, fold_err xs _ (by simp)]
    · have h' : vBad x = false := by simpa using h
      rw [List.any_cons, h', Bool.false_or] at hb
      rw [wVal_ok bs x h' (by omega)]
      exact fold_bad xs _ (fun y hy => hs y (by simp [hy])) (by rw [List.length_append]; omega) hb
theorem flat_len : ∀ (xs : List Vx), (∀ x ∈ xs, x.Small) → (xs.flatMap vForm).length ≤ 520 * xs.length
  | [], _ => by simp
  | x :: xs, hs => by
    have h1 := form_len x (hs x (by simp))
    have h2 := flat_len xs (fun y hy => hs y (by simp [hy]))
    rw [List.flatMap_cons, List.length_append, List.length_cons]
    omega

def FormDone (w : World) (x : Vx) (r : Ending) (w' : World) : Prop := ∃ v, r = .returned (.tuple #[v, .bool (!vBad x)]) ∧ Row w' v (vForm x) ∧ Touch [] w w' ∧ ∀ g ∈ blk v, w.heap.size ≤ g
theorem FormDone.mk {w w' : World} {x : Vx} {v : Value} {b : Bool} {l : List UInt8} (hb : vBad x = !b) (hf : vForm x = l) (hr : Row w' v l) (ht : Touch [] w w') (hg : ∀ g ∈ blk v, w.heap.size ≤ g) : FormDone w x (.returned (.tuple #[v, .bool b])) w' := by
  refine ⟨v, ?_, hf ▸ hr, ht, hg⟩
  rw [hb, Bool.not_not]

set_option maxRecDepth 100000 in
set_option maxHeartbeats 1000000 in
theorem form_any (x : Vx) (w : World) (hx : x.Ok w) (hs : x.Small) : Calls Try.prog 21 #[.agg #[B x.kind, I x.n, x.tv, x.lv]] w (FormDone w x) := by
  have mk : ∀ (w' : World) (v : Value) (b : Bool) (l : List UInt8), vBad x = !b → vForm x = l → Row w' v l → Touch [] w w' → (∀ g ∈ blk v, w.heap.size ≤ g) → FormDone w x (.returned (.tuple #[v, .bool b])) w' := fun _ _ _ _ h1 h2 h3 h4 h5 => FormDone.mk h1 h2 h3 h4 h5
  generalize hP : FormDone w x = Post at *
  have hB : vBad x = (x.kind.toNat % 6 == 0 && decide (x.n < 0)) := rfl
  have hE : vForm x = if vBad x then [] else vEnc x := rfl
  have hV : vEnc x = if x.kind.toNat % 6 = 0 then grp x.n.toNat else if x.kind.toNat % 6 = 1 then grp (fold x.n) else if x.kind.toNat % 6 = 2 then [if x.n != 0 then 1 else 0]
    else if x.kind.toNat % 6 = 3 then grp x.text.length ++ x.text else if x.kind.toNat % 6 = 4 then grp x.text.length ++ x.text else grp x.list.length ++ encs x.list := rfl
  generalize vBad x = bad at *
  generalize vForm x = frm at *
  generalize vEnc x = en at *
  have MK := Lib.hid mk
  have HP := Lib.hid hP
  have HB := Lib.hid hB
  have HE := Lib.hid hE
  have HV := Lib.hid hV
  clear mk hP hB hE hV
  obtain ⟨kind, n, tv, text, lv, list⟩ := x
  obtain ⟨⟨hf1, hf2⟩, hT, hL⟩ := hx
  obtain ⟨hs1, hs2⟩ := hs
  simp only at hf1 hf2 hT hL hs1 hs2 HB HV
  unfold B I
  simp only
  have hk := UInt8.toNat_lt kind
  generalize kind.toNat = k at *
  have ha := (Touch.refl [] w).alloc (.cells #[.int .u8 k, .int .i64 n, tv, lv] 35)
  have hT' : Bytes _ tv text := Reads.touch0 hT ha
  have hL' := hL.touch0 ha
  have hfl := fold_lt n hf1 hf2
  have hcase : k % 6 = 0 ∨ k % 6 = 1 ∨ k % 6 = 2 ∨ k % 6 = 3 ∨ k % 6 = 4 ∨ k % 6 = 5 := by omega
  rcases hcase with hk6 | hcase
  · by_cases hn : n < 0
    · have q0 : (((k : Int) % 6) == 0) = true := by simp; omega
      have hB : bad = !false := by rw [HB.out, hk6]; simp; omega
      have hE : frm = [] := by rw [HE.out, hB]; rfl
      have G := fun w' v => MK.out w' v _ _ hB hE
      have HG := Lib.hid G
      clear G hB hE HB HE HV hk6 MK
      have hn' : n < 0 := hn
      go_enter Try.func21, Try.ntmps21
      go_wp2_with fail
      exact HG.out _ _ (Own.nil _ _ _) ha (by simp [blk])
    · have q0 : (((k : Int) % 6) == 0) = true := by simp; omega
      have hB : bad = !true := by rw [HB.out, hk6]; simp; omega
      have hE : frm = grp n.toNat := by rw [HE.out, hB]; simp only [Bool.not_true, Bool.false_eq_true, if_false]; rw [HV.out] ; rw [if_pos hk6]
      have G := fun w' v => MK.out w' v _ _ hB hE
      have HG := Lib.hid G
      clear G hB hE HB HE HV hk6 MK
      have hn' : ¬ n < 0 := hn
      go_enter Try.func21, Try.ntmps21
      go_wp2_with fail
      refine (rgroup_int n _ (by omega) (by omega)).mono ?_
      rintro r w1 ⟨v1, rfl, h1, h2, h3⟩
      go_wp2_with fail
      exact HG.out _ _ h1 (ha.then0 h2) (fun g hg => Nat.le_trans ha.size (h3 g hg))
  rcases hcase with hk6 | hcase
  · have q0 : (((k : Int) % 6) == 0) = false := by simp; omega
    have q1 : (((k : Int) % 6) == 1) = true := by simp; omega
    have hB : bad = !true := by rw [HB.out, show (k % 6 == 0) = false by simp; omega]; rfl
    have hE : frm = grp (fold n) := by rw [HE.out, hB]; simp only [Bool.not_true, Bool.false_eq_true, if_false]; rw [HV.out] ; rw [if_neg (by omega)] ; rw [if_pos hk6]
    have G := fun w' v => MK.out w' v _ _ hB hE
    have HG := Lib.hid G
    clear G hB hE HB HE HV hk6 MK
    go_enter Try.func21, Try.ntmps21
    go_wp2_with fail
    refine (rfold_any n _ ⟨hf1, hf2⟩).mono ?_
    rintro r w1 ⟨rfl, rfl⟩
    go_wp2_with fail
    refine (rgroup_any (fold n) _ hfl).mono ?_
    rintro r w1 ⟨v1, rfl, h1, h2, h3⟩
    go_wp2_with fail
    exact HG.out _ _ h1 (ha.then0 h2) (fun g hg => Nat.le_trans ha.size (h3 g hg))
  rcases hcase with hk6 | hcase
  · by_cases hn : (n != 0) = true
    · have q0 : (((k : Int) % 6) == 0) = false := by simp; omega
      have q1 : (((k : Int) % 6) == 1) = false := by simp; omega
      have q2 : (((k : Int) % 6) == 2) = true := by simp; omega
      have hB : bad = !true := by rw [HB.out, show (k % 6 == 0) = false by simp; omega]; rfl
      have hE : frm = [1] := by rw [HE.out, hB]; simp only [Bool.not_true, Bool.false_eq_true, if_false]; rw [HV.out] ; rw [if_neg (by omega)] ; rw [if_neg (by omega)] ; rw [if_pos hk6, hn] ; rfl
      have G := fun w' v => MK.out w' v _ _ hB hE
      have HG := Lib.hid G
      clear G hB hE HB HE HV hk6 MK
      have hn' : (n != 0) = true := hn
      go_enter Try.func21, Try.ntmps21
      go_wp2_with fail
      exact HG.out _ (.slice (some ⟨w.heap.size + 1, 0, none⟩) 1 1) (Row.one' _ _ (by simp) 1) (ha.alloc _) (by simp [blk])
    · have q0 : (((k : Int) % 6) == 0) = false := by simp; omega
      have q1 : (((k : Int) % 6) == 1) = false := by simp; omega
      have q2 : (((k : Int) % 6) == 2) = true := by simp; omega
      have hB : bad = !true := by rw [HB.out, show (k % 6 == 0) = false by simp; omega]; rfl
      have hE : frm = [0] := by rw [HE.out, hB]; simp only [Bool.not_true, Bool.false_eq_true, if_false]; rw [HV.out] ; rw [if_neg (by omega)] ; rw [if_neg (by omega)] ; rw [if_pos hk6, show (n != 0) = false by simpa using hn] ; rfl
      have G := fun w' v => MK.out w' v _ _ hB hE
      have HG := Lib.hid G
      clear G hB hE HB HE HV hk6 MK
      have hn' : (n != 0) = false := by simpa using hn
      go_enter Try.func21, Try.ntmps21
      go_wp2_with fail
      exact HG.out _ (.slice (some ⟨w.heap.size + 1, 0, none⟩) 1 1) (Row.one' _ _ (by simp) 0) (ha.alloc _) (by simp [blk])
  rcases hcase with hk6 | hcase
  · have q0 : (((k : Int) % 6) == 0) = false := by simp; omega
    have q1 : (((k : Int) % 6) == 1) = false := by simp; omega
    have q2 : (((k : Int) % 6) == 2) = false := by simp; omega
    have q3 : (((k : Int) % 6) == 3) = true := by simp; omega
    have hB : bad = !true := by rw [HB.out, show (k % 6 == 0) = false by simp; omega]; rfl
    have hE : frm = grp text.length ++ text := by rw [HE.out, hB]; simp only [Bool.not_true, Bool.false_eq_true, if_false]; rw [HV.out] ; rw [if_neg (by omega)] ; rw [if_neg (by omega)] ; rw [if_neg (by omega)] ; rw [if_pos hk6]
    have G := fun w' v => MK.out w' v _ _ hB hE
    have HG := Lib.hid G
    clear G hB hE HB HE HV hk6 MK
    go_enter Try.func21, Try.ntmps21
    go_wp2_with fail
    refine (rstring_any _ text _ hT' (by omega)).mono ?_
    rintro r w1 ⟨v1, rfl, h1, h2, h3⟩
    go_wp2_with fail
    exact HG.out _ _ h1 (ha.then0 h2) (fun g hg => Nat.le_trans ha.size (h3 g hg))
  rcases hcase with hk6 | hcase
  · have q0 : (((k : Int) % 6) == 0) = false := by simp; omega
    have q1 : (((k : Int) % 6) == 1) = false := by simp; omega
    have q2 : (((k : Int) % 6) == 2) = false := by simp; omega
    have q3 : (((k : Int) % 6) == 3) = false := by simp; omega
    have q4 : (((k : Int) % 6) == 4) = true := by simp; omega
    have hB : bad = !true := by rw [HB.out, show (k % 6 == 0) = false by simp; omega]; rfl
    have hE : frm = grp text.length ++ text := by rw [HE.out, hB]; simp only [Bool.not_true, Bool.false_eq_true, if_false]; rw [HV.out] ; rw [if_neg (by omega)] ; rw [if_neg (by omega)] ; rw [if_neg (by omega)] ; rw [if_neg (by omega)] ; rw [if_pos hk6]
    have G := fun w' v => MK.out w' v _ _ hB hE
    have HG := Lib.hid G
    clear G hB hE HB HE HV hk6 MK
    go_enter Try.func21, Try.ntmps21
    go_wp2_with fail
    refine (rstring_any _ text _ hT' (by omega)).mono ?_
    rintro r w1 ⟨v1, rfl, h1, h2, h3⟩
    go_wp2_with fail
    exact HG.out _ _ h1 (ha.then0 h2) (fun g hg => Nat.le_trans ha.size (h3 g hg))
  have hk6 := hcase
  have q0 : (((k : Int) % 6) == 0) = false := by simp; omega
  have q1 : (((k : Int) % 6) == 1) = false := by simp; omega
  have q2 : (((k : Int) % 6) == 2) = false := by simp; omega
  have q3 : (((k : Int) % 6) == 3) = false := by simp; omega
  have q4 : (((k : Int) % 6) == 4) = false := by simp; omega
  have hB : bad = !true := by rw [HB.out, show (k % 6 == 0) = false by simp; omega]; rfl
  have hE : frm = grp list.length ++ encs list := by rw [HE.out, hB]; simp only [Bool.not_true, Bool.false_eq_true, if_false]; rw [HV.out] ; rw [if_neg (by omega)] ; rw [if_neg (by omega)] ; rw [if_neg (by omega)] ; rw [if_neg (by omega)] ; rw [if_neg (by omega)]
  have G := fun w' v => MK.out w' v _ _ hB hE
  have HG := Lib.hid G
  clear G hB hE HB HE HV hk6 MK hcase
  go_enter Try.func21, Try.ntmps21
  go_wp2_with fail
  refine (rints_any _ list _ hL' (by omega)).mono ?_
  rintro r w1 ⟨v1, rfl, h1, h2, h3⟩
  go_wp2_with fail
  exact HG.out _ _ h1 (ha.then0 h2) (fun g hg => Nat.le_trans ha.size (h3 g hg))
end Go.Proofs.Ytpbknnkobhjjcaa
