/- The law WireOnce: its walk. -/
import Derived.Test.YtpbknnkobhjjcaaCanon
import Derived.Test.YtpbknnkobhjjcaaVals
import Derived.Test.YtpbknnkobhjjcaaVals2
namespace Go.Proofs.Ytpbknnkobhjjcaa
open Go.RowKit

structure Ax where
  kind : UInt8
  limit : Int
def Ax.cells (x : Ax) : List Value := [B x.kind, I x.limit]
def Acts (w : World) (v : Value) (xs : List Ax) : Prop := Reads w 2 v xs.length (xs.flatMap Ax.cells) ∧ ∀ x ∈ xs, Fits x.limit
theorem Acts.touch0 {w w' : World} {v : Value} {xs : List Ax} (h : Acts w v xs) (ht : Touch [] w w') : Acts w' v xs := ⟨Reads.touch0 h.1 ht, h.2⟩
theorem Acts.elem {w : World} {v : Value} {xs : List Ax} (h : Acts w v xs) {k : Nat} (hk : k < xs.length) {b off cap : Nat} (hv : v = .slice (some ⟨b, off, none⟩) xs.length cap) :
    w.cell? ⟨b, off + k * 2, none⟩ = some (B xs[k].kind) ∧ w.cell? ⟨b, off + k * 2 + 1, none⟩ = some (I xs[k].limit) := by
  obtain ⟨b', off', cap', e, _, _, _, hc⟩ := Reads.rows h.1 (fun _ => rfl) (by omega)
  rw [hv] at e
  injection e with e1 _ _
  injection e1 with e1
  injection e1 with e1 e2
  subst e1 e2
  exact ⟨hc k 0 hk _ (by omega) rfl, hc k 1 hk _ (by omega) rfl⟩
theorem Acts.addr {w : World} {v : Value} {xs : List Ax} (h : Acts w v xs) (hn : 0 < xs.length) : ∃ b off cap, v = .slice (some ⟨b, off, none⟩) xs.length cap ∧ b < w.heap.size ∧ xs.length ≤ cap ∧ cap ≤ 9223372036854775807 := by
  obtain ⟨b, off, cap, e, h1, h2, h3, _⟩ := Reads.rows h.1 (fun _ => rfl) hn
  unfold maxLen at h3
  exact ⟨b, off, cap, e, h1, h2, by omega⟩

/-- A reader and a writer side by side. -/
structure OnceSt (w : World) (l : List UInt8) (pr : Nat) (inp : Value) (pw : Nat) (bs : List UInt8) (out : Value) (s : Int × Nat) (wr : World) : Prop where
  rd : Rd wr pr inp l s.1 s.2
  wt : Wr wr pw out (0, bs)
  new : ∀ g ∈ blk out, pw ≤ g
  touch : Touch [] w wr
  lo : w.heap.size ≤ pr
  mid : pr < pw
  inlo : ∀ g ∈ rb inp, g < pw
section
variable {w wr w1 w2 : World} {l : List UInt8} {pr pw : Nat} {inp out : Value} {bs bs' : List UInt8} {s s1 : Int × Nat} {r : Ending}
theorem OnceSt.read (h : OnceSt w l pr inp pw bs out s wr) (hr : Rd w1 pr inp l s1.1 s1.2) (ht : Touch [pr] wr w1) : OnceSt w l pr inp pw bs out s1 w1 := by
  have h3 := h.mid
  refine ⟨hr, ⟨h.wt.1.touch ht (by simp; omega), fun he => ⟨Own.touch (h.wt.2 he).1 ht (fun g hg hm => ?_), (h.wt.2 he).2⟩⟩, h.new, h.touch.step ht (fun m hm => ?_), h.lo, h.mid, h.inlo⟩
  · have := h.new g hg
    simp at hm
    omega
  · have := h.lo
    simp at hm
    omega
theorem OnceSt.write (h : OnceSt w l pr inp pw bs out s wr) (hd : WrDone wr pw out (0, bs') r w1) : r = .returned (.tuple #[]) ∧ ∃ out', OnceSt w l pr inp pw bs' out' s w1 := by
  obtain ⟨rfl, out', hW, ht, hf⟩ := hd
  have h3 := h.mid
  have h4 := h.lo
  have hlt := h.wt.1.lt
  refine ⟨rfl, out', h.rd.touch ht (fun hm => ?_) (fun b hb hm => ?_), hW, fun g hg => ?_, h.touch.step ht (fun m hm => ?_), h.lo, h.mid, h.inlo⟩
  · rcases List.mem_cons.1 hm with e | e
    · omega
    · have := h.new _ e; omega
  · have h5 := h.inlo b hb
    rcases List.mem_cons.1 hm with e | e
    · omega
    · have := h.new _ e; omega
  · rcases hf g hg with e | e
    · exact h.new g e
    · omega
  · rcases List.mem_cons.1 hm with e | e
    · omega
    · have := h.new _ e; omega
end

def OnceRel (w : World) (l : List UInt8) (pr : Nat) (inp : Value) (pw n : Nat) (ti : Value) (wr : World) : Prop :=
  ∃ (k : Nat) (bs : List UInt8) (out : Value) (s : Int × Nat), k ≤ n ∧ ti = .int .i64 k ∧ OnceSt w l pr inp pw bs out s wr ∧ (s.1 = 0 → bs = l.take s.2) ∧ bs.length ≤ 300 + k
theorem put_bs (bs enc : List UInt8) (h : (bs ++ enc).length ≤ 65536) : wPut (0, bs) enc = (0, bs ++ enc) := put_fits _ _ rfl (by rw [List.length_append] at h; exact h)
theorem pUint_le {l : List UInt8} {a : Nat} {x : Int} {a' : Nat} (h : pUint l a = .ok (x, a')) : x ≤ 9223372036854775807 := by
  unfold pUint at h
  cases hg : pGroup l 9 0 0 a with
  | error e => rw [hg] at h; cases h
  | ok y =>
    rw [hg] at h
    cases h
    have := (pGroup9 hg).1
    show ((y.1 : Nat) : Int) ≤ _
    omega
theorem pList_fits {l : List UInt8} : ∀ (n a : Nat) (x : List Int) (a' : Nat), pList l n a = .ok (x, a') → ∀ m ∈ x, Fits m
  | 0, a, x, a', h => by
    unfold pList at h
    cases h
    simp
  | n + 1, a, x, a', h => by
    unfold pList at h
    cases hi : pInt l a with
    | error k => rw [hi] at h; cases h
    | ok y =>
      rw [hi] at h
      simp only at h
      cases hl : pList l n y.2 with
      | error k => rw [hl] at h; cases h
      | ok ys =>
        rw [hl] at h
        cases h
        intro m hm
        rcases List.mem_cons.1 hm with rfl | hm
        · exact (pInt_ok hi).2.2
        · exact pList_fits n _ _ _ hl m hm
theorem pInts_fits {l : List UInt8} {limit : Int} {a : Nat} {x : List Int} {a' : Nat} (h : pInts l limit a = .ok (x, a')) : ∀ m ∈ x, Fits m := by
  unfold pInts at h
  cases hg : pCount l limit a with
  | error k => rw [hg] at h; cases h
  | ok y =>
    rw [hg] at h
    exact pList_fits _ _ _ _ h
section
variable {l bs : List UInt8} {s : Int × Nat} {k : Nat} (hi : s.1 = 0 → bs = l.take s.2) (hl : l.length ≤ 300) (hb : bs.length ≤ 300 + k) (hk : k ≤ 12)
include hi hl hb hk
theorem once_uint : ∃ bs', wUint (0, bs) (rRead 0 (pUint l) s).1 = (0, bs') ∧ ((rRead 0 (pUint l) s).2.1 = 0 → bs' = l.take (rRead 0 (pUint l) s).2.2) ∧ bs'.length ≤ 300 + (k + 1) ∧ (rRead 0 (pUint l) s).1 ≤ 9223372036854775807 := by
  obtain ⟨h1, h2, h3⟩ := once_step (l := l) (z := (0 : Int)) (res := pUint l) (enc := fun n => grp n.toNat) rfl (fun a x a' h => (canon_uint h).2) (fun a e h => pUint_err h) s bs hi
  refine ⟨_, ?_, h1, by omega, ?_⟩
  · have h0 : ¬ (rRead 0 (pUint l) s).1 < 0 := by
      rcases h3 with h3 | ⟨a', h3⟩
      · omega
      · have := (canon_uint h3).1; omega
    unfold wUint
    rw [if_neg h0]
    exact put_bs _ _ (by omega)
  · rcases h3 with h3 | ⟨a', h3⟩
    · omega
    · exact pUint_le h3
theorem once_int : ∃ bs', wInt (0, bs) (rRead 0 (pInt l) s).1 = (0, bs') ∧ ((rRead 0 (pInt l) s).2.1 = 0 → bs' = l.take (rRead 0 (pInt l) s).2.2) ∧ bs'.length ≤ 300 + (k + 1) ∧ Fits (rRead 0 (pInt l) s).1 := by
  obtain ⟨h1, h2, h3⟩ := once_step (l := l) (z := (0 : Int)) (res := pInt l) (enc := fun n => grp (fold n)) rfl (fun a x a' h => canon_int h) (fun a e h => pInt_err h) s bs hi
  refine ⟨_, ?_, h1, by omega, ?_⟩
  · exact put_bs _ _ (by omega)
  · rcases h3 with h3 | ⟨a', h3⟩
    · rw [h3]; unfold Fits; omega
    · exact (pInt_ok h3).2.2
theorem once_bool : ∃ bs', wBool (0, bs) (rRead false (pBool l) s).1 = (0, bs') ∧ ((rRead false (pBool l) s).2.1 = 0 → bs' = l.take (rRead false (pBool l) s).2.2) ∧ bs'.length ≤ 300 + (k + 1) := by
  obtain ⟨h1, h2, h3⟩ := once_step (l := l) (z := false) (res := pBool l) (enc := fun b => [if b then 1 else 0]) rfl (fun a x a' h => canon_bool h) (fun a e h => pBool_err h) s bs hi
  exact ⟨_, put_bs _ _ (by omega), h1, by omega⟩
theorem once_bytes : ∃ bs', wBytes (0, bs) (rRead [] (pPart l 300) s).1 = (0, bs') ∧ ((rRead [] (pPart l 300) s).2.1 = 0 → bs' = l.take (rRead [] (pPart l 300) s).2.2) ∧ bs'.length ≤ 300 + (k + 1) ∧ (rRead [] (pPart l 300) s).1.length ≤ 300 := by
  obtain ⟨h1, h2, h3⟩ := once_step (l := l) (z := ([] : List UInt8)) (res := pPart l 300) (enc := fun x => grp x.length ++ x) rfl (fun a x a' h => (canon_part h).2) (fun a e h => pPart_err h) s bs hi
  refine ⟨_, put_bs _ _ (by omega), h1, by omega, ?_⟩
  rcases h3 with h3 | ⟨a', h3⟩
  · rw [h3]; simp
  · have := (canon_part h3).1; omega
theorem once_ints : ∃ bs', wInts (0, bs) (rRead [] (pInts l 300) s).1 = (0, bs') ∧ ((rRead [] (pInts l 300) s).2.1 = 0 → bs' = l.take (rRead [] (pInts l 300) s).2.2) ∧ bs'.length ≤ 300 + (k + 1) ∧ ∀ n ∈ (rRead [] (pInts l 300) s).1, Fits n := by
  obtain ⟨h1, h2, h3⟩ := once_step (l := l) (z := ([] : List Int)) (res := pInts l 300) (enc := fun x => grp x.length ++ encs x) rfl (fun a x a' h => (canon_ints h).2) (fun a e h => pInts_err h) s bs hi
  refine ⟨bs ++ (grp (rRead [] (pInts l 300) s).1.length ++ encs (rRead [] (pInts l 300) s).1), put_bs bs (grp (rRead [] (pInts l 300) s).1.length ++ encs (rRead [] (pInts l 300) s).1) (by omega), h1, by omega, ?_⟩
  rcases h3 with h3 | ⟨a', h3⟩
  · rw [h3]; simp
  · exact pInts_fits h3
end

set_option maxRecDepth 100000 in
set_option maxHeartbeats 8000000 in
theorem once_walk (v : Value) (l : List UInt8) (u : Value) (xs : List Ax) (w : World) (hv : Bytes w v l) (hu : Acts w u xs) :
    Calls Try.prog 8 #[v, u] w fun r w' => r = .returned (.bool true) ∧ Touch [] w w' := by
  obtain ⟨A, cap, rfl, -⟩ := id hv
  obtain ⟨A', cap', rfl, -⟩ := id hu.1
  by_cases hl : 300 < l.length
  · have hl' : (300 : Int) < (l.length : Int) := by omega
    go_enter Try.func8, Try.ntmps8
    go_wp2_with fail
    refine (known_any _).mono ?_
    rintro r w7 ⟨rfl, ht7⟩
    go_wp2_with fail
    go_ret
    exact ⟨rfl, ht7⟩
  have hl' : ¬ (300 : Int) < (l.length : Int) := by omega
  by_cases hx : 12 < xs.length
  · have hx' : (12 : Int) < (xs.length : Int) := by omega
    go_enter Try.func8, Try.ntmps8
    go_wp2_with fail
    refine (known_any _).mono ?_
    rintro r w7 ⟨rfl, ht7⟩
    go_wp2_with fail
    go_ret
    exact ⟨rfl, ht7⟩
  have hx' : ¬ (12 : Int) < (xs.length : Int) := by omega
  have dl : decide ((300 : Int) < (l.length : Int)) = false := by simp; omega
  have dx : decide ((12 : Int) < (xs.length : Int)) = false := by simp; omega
  go_enter Try.func8, Try.ntmps8
  go_wp2_with fail
  refine (read_any _ _ _ hv (by omega)).mono ?_
  rintro r w2 ⟨p2, in2, rfl, hp2, -, hr2, ht2⟩
  go_wp2_with fail
  have hst : OnceSt w l p2 in2 w2.heap.size [] (.slice none 0 0) (0, 0) (w2.alloc (.cells #[.int .i64 0, .slice none 0 0] 30)) :=
    ⟨hr2.touch0 ((Touch.refl [] w2).alloc _), Wr.new w2, by simp [blk], ht2.alloc _, hp2, hr2.1.lt, hr2.2.2.2.2.1⟩
  clear hr2 ht2
  go_loopw [7] (fun ti wr => OnceRel w l p2 in2 w2.heap.size xs.length ti wr) (fun ti _ => xs.length - (intOf ti).toNat)
  case atStart => exact ⟨0, [], _, (0, 0), by omega, rfl, hst, fun _ => by simp, by simp⟩
  case round =>
    clear hst
    obtain ⟨k, bs, out, s, hk, rfl, hst, hinv, hbl⟩ := hrel
    by_cases hlt : k < xs.length
    · have hlt' : (k : Int) < (xs.length : Int) := by omega
      have hur := hu.touch0 hst.touch
      obtain ⟨b0, off, cap2, e, hb0, hc1, hc2⟩ := hu.addr (by omega)
      injection e with e1 _ e2
      subst e1 e2
      obtain ⟨c0, -⟩ := hur.elem hlt rfl
      have hkb := UInt8.toNat_lt xs[k].kind
      unfold B at c0
      have U0 := Lib.hid (once_uint hinv (by omega) hbl (by omega))
      have U1 := Lib.hid (once_int hinv (by omega) hbl (by omega))
      have U2 := Lib.hid (once_bool hinv (by omega) hbl (by omega))
      have U3 := Lib.hid (once_bytes hinv (by omega) hbl (by omega))
      have U4 := Lib.hid (once_ints hinv (by omega) hbl (by omega))
      have hcase : (xs[k].kind.toNat % 8 = 0 ∨ xs[k].kind.toNat % 8 = 3) ∨ xs[k].kind.toNat % 8 = 1 ∨ xs[k].kind.toNat % 8 = 2 ∨ xs[k].kind.toNat % 8 = 4 ∨ xs[k].kind.toNat % 8 = 5 ∨ (xs[k].kind.toNat % 8 = 6 ∨ xs[k].kind.toNat % 8 = 7) := by omega
      generalize xs[k].kind.toNat = kk at *
      have hlow := Own.lt (hst.wt.2 rfl).1
      have HINV := Lib.hid hinv
      have HLOW := Lib.hid hlow
      clear hur hinv hlow
      rcases hcase with hk8 | hcase
      · rcases hk8 with hk8 | hk8
        · have q0 : (((kk : Int) % 8) == 0) = true := by simp; omega
          clear hk8
          obtain ⟨bs', hw', hi', hl', hm'⟩ := U0.out
          have HW' := Lib.hid hw'
          have HI' := Lib.hid hi'
          clear hw' hi' U0 U1 U2 U3 U4
          go_wp2_with fail
          refine (rd_uint _ _ _ s _ hst.rd).mono ?_
          rintro r w3 ⟨rfl, hr3, ht3⟩
          have h1 := hst.read hr3 ht3
          go_wp2_with fail
          refine (wr_uint _ _ _ _ _ h1.wt hm').mono ?_
          intro r w4 hd
          rw [HW'.out] at hd
          obtain ⟨rfl, out', h2⟩ := h1.write hd
          clear hd
          go_wp2_with fail
          go_roundw
          case rel => exact ⟨k + 1, bs', out', _, hlt, by go_num, h2, HI'.out, hl'⟩
          case measure => simp [intOf]; omega
        · have q0 : (((kk : Int) % 8) == 0) = false := by simp; omega
          have q3 : (((kk : Int) % 8) == 3) = true := by simp; omega
          clear hk8
          obtain ⟨bs', hw', hi', hl', hm'⟩ := U0.out
          have HW' := Lib.hid hw'
          have HI' := Lib.hid hi'
          clear hw' hi' U0 U1 U2 U3 U4
          go_wp2_with fail
          refine (rd_uint _ _ _ s _ hst.rd).mono ?_
          rintro r w3 ⟨rfl, hr3, ht3⟩
          have h1 := hst.read hr3 ht3
          go_wp2_with fail
          refine (wr_uint _ _ _ _ _ h1.wt hm').mono ?_
          intro r w4 hd
          rw [HW'.out] at hd
          obtain ⟨rfl, out', h2⟩ := h1.write hd
          clear hd
          go_wp2_with fail
          go_roundw
          case rel => exact ⟨k + 1, bs', out', _, hlt, by go_num, h2, HI'.out, hl'⟩
          case measure => simp [intOf]; omega
      rcases hcase with hk8 | hcase
      · have q0 : (((kk : Int) % 8) == 0) = false := by simp; omega
        have q3 : (((kk : Int) % 8) == 3) = false := by simp; omega
        have q1 : (((kk : Int) % 8) == 1) = true := by simp; omega
        clear hk8
        obtain ⟨bs', hw', hi', hl', hm'⟩ := U1.out
        have HW' := Lib.hid hw'
        have HI' := Lib.hid hi'
        clear hw' hi' U0 U1 U2 U3 U4
        go_wp2_with fail
        refine (rd_int _ _ _ s _ hst.rd).mono ?_
        rintro r w3 ⟨rfl, hr3, ht3⟩
        have h1 := hst.read hr3 ht3
        go_wp2_with fail
        refine (wr_int _ _ _ _ _ h1.wt hm'.1 hm'.2).mono ?_
        intro r w4 hd
        rw [HW'.out] at hd
        obtain ⟨rfl, out', h2⟩ := h1.write hd
        clear hd
        go_wp2_with fail
        go_roundw
        case rel => exact ⟨k + 1, bs', out', _, hlt, by go_num, h2, HI'.out, hl'⟩
        case measure => simp [intOf]; omega
      rcases hcase with hk8 | hcase
      · have q0 : (((kk : Int) % 8) == 0) = false := by simp; omega
        have q3 : (((kk : Int) % 8) == 3) = false := by simp; omega
        have q1 : (((kk : Int) % 8) == 1) = false := by simp; omega
        have q2 : (((kk : Int) % 8) == 2) = true := by simp; omega
        clear hk8
        obtain ⟨bs', hw', hi', hl'⟩ := U2.out
        have HW' := Lib.hid hw'
        have HI' := Lib.hid hi'
        clear hw' hi' U0 U1 U2 U3 U4
        go_wp2_with fail
        refine (rd_bool _ _ _ s _ hst.rd).mono ?_
        rintro r w3 ⟨rfl, hr3, ht3⟩
        have h1 := hst.read hr3 ht3
        go_wp2_with fail
        refine (wr_bool _ _ _ _ _ h1.wt).mono ?_
        intro r w4 hd
        rw [HW'.out] at hd
        obtain ⟨rfl, out', h2⟩ := h1.write hd
        clear hd
        go_wp2_with fail
        go_roundw
        case rel => exact ⟨k + 1, bs', out', _, hlt, by go_num, h2, HI'.out, hl'⟩
        case measure => simp [intOf]; omega
      rcases hcase with hk8 | hcase
      · have q0 : (((kk : Int) % 8) == 0) = false := by simp; omega
        have q3 : (((kk : Int) % 8) == 3) = false := by simp; omega
        have q1 : (((kk : Int) % 8) == 1) = false := by simp; omega
        have q2 : (((kk : Int) % 8) == 2) = false := by simp; omega
        have q4 : (((kk : Int) % 8) == 4) = true := by simp; omega
        clear hk8
        obtain ⟨bs', hw', hi', hl', hm'⟩ := U3.out
        have HW' := Lib.hid hw'
        have HI' := Lib.hid hi'
        clear hw' hi' U0 U1 U2 U3 U4
        go_wp2_with fail
        refine (rd_bytes _ _ _ s 300 _ hst.rd).mono ?_
        rintro r w3 ⟨v3, rfl, hv3, hn3, hr3, ht3⟩
        have h1 := hst.read hr3 ht3
        go_wp2_with fail
        refine (wr_bytes _ _ _ _ _ _ h1.wt (Row.bytes hv3) (fun _ g hg hm => by have h5 := hn3 g (rb_sub _ g hg); have h6 := HLOW.out g hm; omega)).mono ?_
        intro r w4 hd
        rw [HW'.out] at hd
        obtain ⟨rfl, out', h2⟩ := h1.write hd
        clear hd
        go_wp2_with fail
        go_roundw
        case rel => exact ⟨k + 1, bs', out', _, hlt, by go_num, h2, HI'.out, hl'⟩
        case measure => simp [intOf]; omega
      rcases hcase with hk8 | hcase
      · have q0 : (((kk : Int) % 8) == 0) = false := by simp; omega
        have q3 : (((kk : Int) % 8) == 3) = false := by simp; omega
        have q1 : (((kk : Int) % 8) == 1) = false := by simp; omega
        have q2 : (((kk : Int) % 8) == 2) = false := by simp; omega
        have q4 : (((kk : Int) % 8) == 4) = false := by simp; omega
        have q5 : (((kk : Int) % 8) == 5) = true := by simp; omega
        clear hk8
        obtain ⟨bs', hw', hi', hl', hm'⟩ := U3.out
        have HW' := Lib.hid hw'
        have HI' := Lib.hid hi'
        clear hw' hi' U0 U1 U2 U3 U4
        go_wp2_with fail
        refine (rd_string _ _ _ s 300 _ hst.rd).mono ?_
        rintro r w3 ⟨rfl, hr3, ht3⟩
        have h1 := hst.read hr3 ht3
        go_wp2_with fail
        refine (wr_str _ _ _ _ _ h1.wt (by show (List.toArray _).size ≤ maxLen; unfold maxLen; simp; omega)).mono ?_
        intro r w4 hd
        rw [HW'.out] at hd
        obtain ⟨rfl, out', h2⟩ := h1.write hd
        clear hd
        go_wp2_with fail
        go_roundw
        case rel => exact ⟨k + 1, bs', out', _, hlt, by go_num, h2, HI'.out, hl'⟩
        case measure => simp [intOf]; omega
      have q0 : (((kk : Int) % 8) == 0) = false := by simp; omega
      have q3 : (((kk : Int) % 8) == 3) = false := by simp; omega
      have q1 : (((kk : Int) % 8) == 1) = false := by simp; omega
      have q2 : (((kk : Int) % 8) == 2) = false := by simp; omega
      have q4 : (((kk : Int) % 8) == 4) = false := by simp; omega
      have q5 : (((kk : Int) % 8) == 5) = false := by simp; omega
      clear hcase
      obtain ⟨bs', hw', hi', hl', hm'⟩ := U4.out
      have HW' := Lib.hid hw'
      have HI' := Lib.hid hi'
      clear hw' hi' U0 U1 U2 U3 U4
      go_wp2_with fail
      refine (rd_ints _ _ _ s 300 _ hst.rd).mono ?_
      rintro r w3 ⟨v3, rfl, hv3, hn3, hr3, ht3⟩
      have h1 := hst.read hr3 ht3
      go_wp2_with fail
      refine (wr_ints _ _ _ _ _ _ h1.wt ⟨hv3.reads, hm'⟩ (fun _ g hg hm => by have h5 := hn3 g (rb_sub _ g hg); have h6 := HLOW.out g hm; omega)).mono ?_
      intro r w4 hd
      rw [HW'.out] at hd
      obtain ⟨rfl, out', h2⟩ := h1.write hd
      clear hd
      go_wp2_with fail
      go_roundw
      case rel => exact ⟨k + 1, bs', out', _, hlt, by go_num, h2, HI'.out, hl'⟩
      case measure => simp [intOf]; omega
    · have hlt' : ¬ (k : Int) < (xs.length : Int) := by omega
      go_wp2_with fail
      refine (rd_end _ _ _ _ _ _ hst.rd).mono ?_
      rintro r w3 ⟨rfl, n3, rfl⟩
      have hW3 := hst.wt.touch0 ((Touch.refl [] wr).drewN n3)
      have htt3 := hst.touch.drewN n3
      have ha := hst.rd.2.2.2.1
      generalize wr.drewN n3 = w3 at *
      by_cases hend : rEnd l s.1 s.2 = 0
      · have hs : s.1 = 0 ∧ l.length ≤ s.2 := by
          unfold rEnd at hend
          by_cases h0 : s.1 = 0
          · rw [if_pos h0] at hend
            refine ⟨h0, ?_⟩
            by_cases h1 : s.2 < l.length
            · rw [if_pos h1] at hend
              exact absurd hend (by decide)
            · omega
          · rw [if_neg h0] at hend
            exact absurd hend h0
        have hbs : bs = l := by rw [hinv hs.1, List.take_of_length_le hs.2]
        subst hbs
        rw [hend]
        clear hend hinv hst ha hs
        go_wp2_with fail
        refine (wr_end _ _ _ _ hW3).mono ?_
        rintro r w4 ⟨c, rfl, hc, ht4, -⟩
        simp only [if_true] at hc ⊢
        have k1 := run_str (Row.bytes hc)
        have k2 := run_str (Reads.touch0 (Reads.touch0 hv htt3) ht4)
        go_wp2_with fail
        refine (known_any _).mono ?_
        rintro r w7 ⟨rfl, ht7⟩
        go_wp2_with fail
        go_ret
        exact ⟨rfl, (htt3.then0 ht4).then0 ht7⟩
      · have hend' : (rEnd l s.1 s.2 != 0) = true := by simpa using hend
        generalize rEnd l s.1 s.2 = en at *
        clear hend
        go_wp2_with fail
        refine (known_any _).mono ?_
        rintro r w7 ⟨rfl, ht7⟩
        go_wp2_with fail
        go_ret
        exact ⟨rfl, htt3.then0 ht7⟩
end Go.Proofs.Ytpbknnkobhjjcaa
