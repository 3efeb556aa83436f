/- Reading of bids by the specification: unsigned numbers. -/
import Derived.Test.YtpbknnkobhjjcaaOptLaws
import Derived.Test.YtpbknnkobhjjcaaCanon
namespace Go.Proofs.Ytpbknnkobhjjcaa
open Go.RowKit
set_option linter.unusedSimpArgs false

/-- What Ungroup returns: the number, the offset behind it, the error. -/
def ugOf (a : Nat) : Except Int (Nat × Nat) → Int × Int × Int
  | .ok x => ((x.1 : Int), (x.2 : Int), 0)
  | .error k => (0, (a : Int), k)
def UgPost (a : Nat) (res : Except Int (Nat × Nat)) (w : World) (r : Ending) (w' : World) : Prop := r = .returned (.tuple #[.int .i64 (ugOf a res).1, .int .i64 (ugOf a res).2.1, .int .i64 (ugOf a res).2.2]) ∧ w = w'
theorem UgPost.err {a : Nat} {res : Except Int (Nat × Nat)} {k : Int} {w : World} (h : res = .error k) : UgPost a res w (.returned (.tuple #[.int .i64 0, .int .i64 (a : Int), .int .i64 k])) w := by subst h; exact ⟨rfl, rfl⟩
theorem UgPost.ok {a : Nat} {res : Except Int (Nat × Nat)} {m a' : Nat} {w : World} (h : res = .ok (m, a')) : UgPost a res w (.returned (.tuple #[.int .i64 (m : Int), .int .i64 (a' : Int), .int .i64 0])) w := by subst h; exact ⟨rfl, rfl⟩
def UgRel (l : List UInt8) (a : Nat) (res : Except Int (Nat × Nat)) (tn ti : Value) : Prop := ∃ i n : Nat, i ≤ 9 ∧ tn = .int .u64 n ∧ ti = .int .i64 i ∧ n < 2 ^ (7 * i) ∧ res = pGroup l (9 - i) i n (a + i)
theorem pow7_8 (i : Nat) (h : i ≤ 8) : 2 ^ (7 * (i + 1)) ≤ 2 ^ 63 := Nat.pow_le_pow_right (by omega) (by omega)

set_option maxRecDepth 100000 in
set_option maxHeartbeats 4000000 in
theorem ungroup30_any (v : Value) (l : List UInt8) (a : Nat) (w : World) (hv : Bytes w v l) (hl : l.length ≤ 100000) (ha : a ≤ 100000) : Calls Try.prog 111 #[v, .int .i64 a] w (UgPost a (pGroup l 9 0 0 a) w) := by
  have hst : UgRel l a (pGroup l 9 0 0 a) (.int .u64 0) (.int .i64 0) := ⟨0, 0, by omega, rfl, rfl, by simp, rfl⟩
  have HER := Lib.hid (fun (k : Int) (h : pGroup l 9 0 0 a = .error k) => UgPost.err (a := a) (w := w) h)
  have HOK := Lib.hid (fun (m a' : Nat) (h : pGroup l 9 0 0 a = .ok (m, a')) => UgPost.ok (a := a) (w := w) h)
  generalize hP : UgPost a (pGroup l 9 0 0 a) w = Post at *
  generalize pGroup l 9 0 0 a = res at *
  clear hP
  obtain ⟨A, cap, hvf, hq1, hq2, -⟩ := id hv
  unfold maxLen at hq2
  have hcell : ∀ j (hj : j < l.length), ∃ b off, A = some ⟨b, off, none⟩ ∧ w.cell? ⟨b, off + j, none⟩ = some (.int .u8 (l[j].toNat : Int)) := fun j hj => by
    obtain ⟨A', cap', e, _, _, _, h4⟩ := id hv
    rw [hvf] at e
    injection e with e1 _ _
    subst e1
    obtain ⟨b, off, rfl, _, hc⟩ := h4 (by omega)
    exact ⟨b, off, rfl, hc j _ (by simp [B, hj])⟩
  have HCL := Lib.hid hcell
  clear hcell hv
  subst hvf
  go_enter Try.func111, Try.ntmps111
  go_wp2_with fail
  go_loop [7, 8] (fun tn ti => UgRel l a res tn ti) (fun _ ti => 9 - (intOf ti).toNat)
  case atStart => exact hst
  case round =>
    clear hst
    obtain ⟨i, n, hi, rfl, rfl, hn, hres⟩ := hrel
    have HN := Lib.hid hn
    have HR := Lib.hid hres
    clear hn hres
    by_cases hlt : i < 9
    case neg =>
      have hlt' : ¬ (i : Int) < 9 := by omega
      go_wp2_with fail
      go_ret3
      exact HER.out 6 (by rw [HR.out, pg_end hlt])
    have hlt' : (i : Int) < 9 := by omega
    by_cases hal : a + i < l.length
    case neg =>
      have hal' : (l.length : Int) ≤ (a : Int) + (i : Int) := by omega
      go_wp2_with fail
      go_ret3
      exact HER.out 4 (by rw [HR.out, pg_short hlt hal])
    have hal' : ¬ (l.length : Int) ≤ (a : Int) + (i : Int) := by omega
    have hal2 : (a : Int) + (i : Int) < (l.length : Int) := by omega
    have hnn : (a : Int) + (i : Int) = ((a + i : Nat) : Int) := by omega
    obtain ⟨b, off, rfl, hc⟩ := HCL.out (a + i) hal
    have HSH := Lib.hid (pg_zero (l := l) (n := n) (a := a + i) hlt hal)
    have HLA := Lib.hid (pg_last (l := l) (n := n) (a := a + i) hlt hal)
    have HMO := Lib.hid (pg_more (l := l) (n := n) (a := a + i) hlt hal)
    have hbyte : l[a + i].toNat < 256 := UInt8.toNat_lt _
    generalize l[a + i].toNat = x at *
    have HA := Lib.hid (and127 x hbyte)
    have hand := HA.out
    obtain ⟨q, hq⟩ : ∃ q, q = x % 128 := ⟨_, rfl⟩
    rw [← hq] at hand
    have hq' : q < 128 := by omega
    have HQ := Lib.hid hq
    clear hq
    have HO := Lib.hid (orshift i n q (by omega) HN.out hq')
    have hlt63 : n + q * 2 ^ (7 * i) < 2 ^ (7 * (i + 1)) := by
      have h1 := HN.out
      rw [two_pow7]
      have h2 : q * 2 ^ (7 * i) ≤ 127 * 2 ^ (7 * i) := Nat.mul_le_mul_right _ (by omega)
      omega
    have hbig := pow7_8 i (by omega)
    have HLT := Lib.hid hlt63
    have HBG := Lib.hid hbig
    clear hlt63 hbig hnn
    have HE1 : Hid (wrap64 (bits .or .u64 (n : Int) (IntKind.u64.wrap ((q : Int) * 2 ^ (7 * i)))) = ((n + q * 2 ^ (7 * i) : Nat) : Int)) := Lib.hid (by
      rw [HO.out]
      have h1 := HLT.out
      have h2 := HBG.out
      generalize n + q * 2 ^ (7 * i) = m at *
      generalize 2 ^ (7 * (i + 1)) = mm at *
      have h3 : m < 9223372036854775808 := by omega
      unfold wrap64
      omega)
    have HE2 : Hid ((a : Int) + (i : Int) + 1 = ((a + i + 1 : Nat) : Int)) := Lib.hid (by omega)
    have HFI : Hid (x < 128 → ¬ (x = 0 ∧ 0 < i) → Post (.returned (.tuple #[.int .i64 (wrap64 (bits .or .u64 (n : Int) (IntKind.u64.wrap ((q : Int) * 2 ^ (7 * i))))), .int .i64 ((a : Int) + (i : Int) + 1), .int .i64 0])) w) := Lib.hid (fun h1 h2 => by
      rw [HE1.out, HE2.out]
      exact HOK.out _ _ (by rw [HR.out, HLA.out (by omega) h2 h1, HQ.out]))
    by_cases hx : x < 128
    · have hx' : (x : Int) < 128 := by omega
      by_cases hi0 : 0 < i
      · by_cases hx0 : x = 0
        · have bx : ((x : Int) == 0) = true := by simp [hx0]
          go_wp2_with fail
          go_ret3
          exact HER.out 6 (by rw [HR.out, HSH.out hi0 hx0])
        · have bx : ((x : Int) == 0) = false := by simpa using hx0
          go_wp2_with fail
          go_ret3
          exact HFI.out hx (by omega)
      · have hi0' : decide (0 < i) = false := by simpa using hi0
        go_wp2_with fail
        go_ret3
        exact HFI.out hx (by omega)
    · have hx' : ¬ (x : Int) < 128 := by omega
      go_wp2_with fail
      go_round
      case rel =>
        rw [HO.out]
        refine ⟨i + 1, n + q * 2 ^ (7 * i), by omega, rfl, by go_num, HLT.out, ?_⟩
        rw [HR.out, HMO.out (by omega) (by omega), HQ.out]
        rfl
      case measure => simp [intOf]; omega
/-- What Count returns. -/
def CntPost (a : Nat) (res : Except Int (Int × Nat)) (w : World) (r : Ending) (w' : World) : Prop := (match res with
  | .ok x => r = .returned (.tuple #[.int .i64 x.1, .int .i64 (x.2 : Int), .int .i64 0])
  | .error k => r = .returned (.tuple #[.int .i64 0, .int .i64 (a : Int), .int .i64 k])) ∧ w = w'
set_option maxRecDepth 100000 in
set_option maxHeartbeats 4000000 in
theorem count30_any (v : Value) (l : List UInt8) (a : Nat) (limit : Int) (w : World) (hv : Bytes w v l) (hl : l.length ≤ 100000) (ha : a ≤ 100000) (hm : 0 ≤ limit) : Calls Try.prog 110 #[v, .int .i64 a, .int .i64 limit] w (CntPost a (pCount l limit a) w) := by
  have HU := Lib.hid (ungroup30_any v l a w hv hl ha)
  unfold pCount
  obtain ⟨A, cap, hvf, -⟩ := id hv
  subst hvf
  cases hg : pGroup l 9 0 0 a with
  | error k =>
    rw [hg] at HU
    have hk := pGroup_err l _ _ _ _ _ hg
    have bk : (k == 0) = false := by simpa using hk
    clear hg
    unfold UgPost ugOf at HU
    simp only at HU
    go_enter Try.func110, Try.ntmps110
    go_wp2_with fail
    refine HU.out.mono ?_
    rintro r w' ⟨rfl, rfl⟩
    go_wp2_with fail
    go_ret3
    exact ⟨rfl, rfl⟩
  | ok x =>
    rw [hg] at HU
    unfold UgPost ugOf at HU
    simp only at HU ⊢
    rw [if_neg (by omega)]
    clear hg
    by_cases hlq : limit < (x.1 : Int)
    · rw [if_pos hlq]
      go_enter Try.func110, Try.ntmps110
      go_wp2_with fail
      refine HU.out.mono ?_
      rintro r w' ⟨rfl, rfl⟩
      go_wp2_with fail
      go_ret3
      exact ⟨rfl, rfl⟩
    · rw [if_neg hlq]
      have dl : decide (limit < (x.1 : Int)) = false := by simpa using hlq
      go_enter Try.func110, Try.ntmps110
      go_wp2_with fail
      refine HU.out.mono ?_
      rintro r w' ⟨rfl, rfl⟩
      go_wp2_with fail
      go_ret3
      exact ⟨rfl, rfl⟩
end Go.Proofs.Ytpbknnkobhjjcaa
