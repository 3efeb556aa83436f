/- Wishes: their encoding. -/
import Derived.Test.YtphpkalbbmlgoaaGreatDoorWs2
namespace Go.Proofs.YtphpkalbbmlgoaaGreatDoor
open Go.RowKit
set_option linter.unusedSimpArgs false

def EncWPost (w : World) (l : List UInt8) (e : Int) (r : Ending) (w' : World) : Prop := ∃ v, r = .returned (.tuple #[v, .int .i64 e]) ∧ Row w' v l ∧ Touch [] w w'

def encWE (xs : List Wx) : Int := if wishB xs then 0 else 2

def encWL (xs : List Wx) : List UInt8 := if wishB xs then encWs xs else []

def EncWRel (w : World) (p : Nat) (xs : List Wx) (ti : Value) (wr : World) : Prop := ∃ (k : Nat) (out : Value), k ≤ xs.length ∧ ti = .int .i64 k ∧ WrL w wr p out (0, grp xs.length ++ (xs.take k).flatMap encW)

structure EncWSt (w : World) (p q : Nat) (cs : Array Value) (bs : List UInt8) (out : Value) (W : World) : Prop where
  wt : WrL w W p out (0, bs)
  bk : Blk W q 26 cs
  off : q ∉ blk out
  ne : q ≠ p

theorem EncWSt.put {w W W' : World} {p q : Nat} {cs : Array Value} {bs bs' : List UInt8} {out : Value} {r : Ending} (h : EncWSt w p q cs bs out W) (hd : WrDone W p out (0, bs') r W') : r = .returned (.tuple #[]) ∧ ∃ out', EncWSt w p q cs bs' out' W' := by
  obtain ⟨hr, out', hW⟩ := h.wt.done hd
  obtain ⟨-, out2, h2, ht, hf⟩ := hd
  refine ⟨hr, out2, ⟨h2, hW.2.1, hW.2.2.1, fun g hg => ?_⟩, h.bk.touch ht (fun hm => ?_), fun hm => ?_, h.ne⟩
  · rcases hf g hg with h3 | h3
    · exact h.wt.2.2.2 g h3
    · have := h.wt.2.1.size; omega
  · rcases List.mem_cons.1 hm with e | e
    · exact h.ne e
    · exact h.off e
  · rcases hf q hm with h3 | h3
    · exact h.off h3
    · have := h.bk.lt; omega

theorem encW_eq (x : Wx) : encW x = encN x.ar ++ encN x.st ++ encN x.vl := rfl

set_option maxRecDepth 100000 in
set_option maxHeartbeats 8000000 in
theorem encwishes_any (v : Value) (xs : List Wx) (w : World) (hv : Wishes w v xs) : Calls Tryz.prog 6 #[v] w (EncWPost w (encWL xs) (encWE xs)) := by
  have hvb := validwishes_any v xs w hv
  unfold encWE encWL
  cases hb : wishB xs with
  | false =>
    rw [hb] at hvb
    have HVB := Lib.hid hvb
    obtain ⟨A, cap, rfl, -⟩ := id hv.1
    clear hvb hb
    go_enter Tryz.func6, Tryz.ntmps6
    go_wp2_with fail
    refine HVB.out.mono ?_
    rintro r w1 ⟨rfl, ht1⟩
    go_wp2_with fail
    go_ret2
    exact ⟨_, rfl, Own.nil _ _ _, ht1⟩
  | true =>
  rw [hb] at hvb
  have HVB := Lib.hid hvb
  have HBP := Lib.hid (wish_parts hb)
  have h500 := (wish_all.1 hb).1
  clear hvb hb
  simp only [if_true]
  have HLEN : Hid (∀ k, (grp xs.length ++ (xs.take k).flatMap encW).length ≤ 15010) := Lib.hid (fun k => by
    have h1 := grp_len xs.length
    have h2 := encWs_len (xs.take k)
    have h3 : (xs.take k).length ≤ 500 := by rw [List.length_take]; omega
    rw [List.length_append]
    omega)
  obtain ⟨A, cap, hvf, -⟩ := id hv.1
  subst hvf
  go_enter Tryz.func6, Tryz.ntmps6
  go_wp2_with fail
  refine HVB.out.mono ?_
  rintro r w1 ⟨rfl, ht1⟩
  go_wp2_with fail
  have hW0 := (WrL.new w1).base ht1
  have HU0 := Lib.hid (wUint_put [] (xs.length : Int) (by omega) (by simp))
  refine (wr_uint _ _ _ (xs.length : Int) _ hW0.1 (by omega)).mono ?_
  intro r w2 hd
  rw [HU0.out] at hd
  obtain ⟨rfl, o2, hW2⟩ := hW0.done hd
  have hp1 : w.heap.size ≤ w1.heap.size := ht1.size
  clear hd hW0
  go_wp2_with fail
  go_loopw [18] (fun ti wr => EncWRel w w1.heap.size xs ti wr) (fun ti _ => xs.length - (intOf ti).toNat)
  case atStart =>
    refine ⟨0, o2, by omega, rfl, ?_⟩
    have : [] ++ encN (xs.length : Int) = grp xs.length ++ (xs.take 0).flatMap encW := by simp [encN]
    rw [← this]
    exact hW2
  case round =>
    clear hW2
    obtain ⟨k, out, hk, rfl, hW⟩ := hrel
    by_cases hlt : k < xs.length
    case neg =>
      have hlt' : ¬ (k : Int) < (xs.length : Int) := by omega
      obtain rfl : k = xs.length := by omega
      rw [List.take_length] at hW
      go_wp2_with fail
      refine (wr_end _ _ _ _ hW.1).mono ?_
      rintro r w4 ⟨a, rfl, ha, ht4, -⟩
      simp only [if_true] at ha ⊢
      have htt := hW.2.1.then0 ht4
      clear hW
      go_wp2_with fail
      go_ret2
      exact ⟨_, rfl, ha, htt⟩
    have hlt' : (k : Int) < (xs.length : Int) := by omega
    have hvr := hv.touch0 hW.2.1
    obtain ⟨b0, off, cap', e, hb0, hc1, hc2⟩ := hv.addr (by omega)
    injection e with e1 _ e2
    subst e1 e2
    obtain ⟨c0, c1, c2⟩ := hvr.elem hlt rfl
    obtain ⟨s1, s2, s3, s4, s5, s6⟩ := HBP.out xs[k] (List.getElem_mem hlt)
    have HNX : Hid (∀ (w' : World) (o' : Value), WrL w w' w1.heap.size o' (0, grp xs.length ++ (xs.take k).flatMap encW ++ encN xs[k].ar ++ encN xs[k].st ++ encN xs[k].vl) → EncWRel w w1.heap.size xs (.int .i64 ((k : Int) + 1)) w') := Lib.hid (fun w' o' h' => ⟨k + 1, o', hlt, by go_num, by rw [take_flat hlt, encW_eq, ← List.append_assoc, ← List.append_assoc, ← List.append_assoc]; exact h'⟩)
    have hbl := HLEN.out k
    have hpl : w1.heap.size < wr.heap.size := hW.1.1.lt
    have hlow := Own.lt (hW.1.2 rfl).1
    have HLOW := Lib.hid hlow
    clear hlow hvr
    unfold I at c0 c1 c2
    generalize xs[k].ar = ar at *
    generalize xs[k].st = st at *
    generalize xs[k].vl = vl at *
    generalize grp xs.length ++ (xs.take k).flatMap encW = bs at *
    have hst : EncWSt w w1.heap.size wr.heap.size #[.int .i64 ar, .int .i64 st, .int .i64 vl] bs out (wr.alloc (.cells #[.int .i64 ar, .int .i64 st, .int .i64 vl] 26)) :=
      ⟨hW.alloc _, Blk.new wr _ _, fun hm => by have := HLOW.out _ hm; omega, by omega⟩
    clear hW HLOW
    have l1 := encN_len ar
    have l2 := encN_len st
    go_wp2_with fail
    have e1 := wUint_put bs ar s1 (by omega)
    refine (wr_uint _ _ _ ar _ hst.wt.1 (by omega)).mono ?_
    intro r w3 hd3
    rw [e1] at hd3
    obtain ⟨rfl, o3, h3⟩ := hst.put hd3
    clear hd3 hst e1 c0 c1 c2
    have k1 := h3.bk.cell 1
    have k2 := h3.bk.cell 2
    simp at k1 k2
    go_wp2_with fail
    have e1 := wUint_put (bs ++ encN ar) st s3 (by rw [List.length_append]; omega)
    refine (wr_uint _ _ _ st _ h3.wt.1 (by omega)).mono ?_
    intro r w4 hd4
    rw [e1] at hd4
    obtain ⟨rfl, o4, h4⟩ := h3.put hd4
    clear hd4 h3 e1 k1 k2
    have k2 := h4.bk.cell 2
    simp at k2
    go_wp2_with fail
    have e1 := wUint_put (bs ++ encN ar ++ encN st) vl s5 (by rw [List.length_append, List.length_append]; omega)
    refine (wr_uint _ _ _ vl _ h4.wt.1 (by omega)).mono ?_
    intro r w5 hd5
    rw [e1] at hd5
    obtain ⟨rfl, o5, h5⟩ := h4.put hd5
    clear hd5 h4 e1 k2
    go_wp2_with fail
    go_roundw
    case rel => exact HNX.out _ _ h5.wt
    case measure => simp [intOf]; omega

set_option maxRecDepth 100000 in
set_option maxHeartbeats 8000000 in
theorem lawencode_any (v : Value) (xs : List Wx) (w : World) (hv : Wishes w v xs) (hb : wishB xs = true) : Calls Tryz.prog 8 #[v] w (fun r w' => ∃ v', r = .returned v' ∧ Row w' v' (encWs xs) ∧ Touch [] w w') := by
  have HBP := Lib.hid (wish_parts hb)
  have h500 := (wish_all.1 hb).1
  clear hb
  have HLEN : Hid (∀ k, (grp xs.length ++ (xs.take k).flatMap encW).length ≤ 15010) := Lib.hid (fun k => by
    have h1 := grp_len xs.length
    have h2 := encWs_len (xs.take k)
    have h3 : (xs.take k).length ≤ 500 := by rw [List.length_take]; omega
    rw [List.length_append]
    omega)
  obtain ⟨A, cap, hvf, -⟩ := id hv.1
  subst hvf
  go_enter Tryz.func8, Tryz.ntmps8
  go_wp2_with fail
  have hW0 := WrL.new w
  have HU0 := Lib.hid (wUint_put [] (xs.length : Int) (by omega) (by simp))
  refine (wr_uint _ _ _ (xs.length : Int) _ hW0.1 (by omega)).mono ?_
  intro r w2 hd
  rw [HU0.out] at hd
  obtain ⟨rfl, o2, hW2⟩ := hW0.done hd
  clear hd hW0
  go_wp2_with fail
  go_loopw [4] (fun ti wr => EncWRel w w.heap.size xs ti wr) (fun ti _ => xs.length - (intOf ti).toNat)
  case atStart =>
    refine ⟨0, o2, by omega, rfl, ?_⟩
    have : [] ++ encN (xs.length : Int) = grp xs.length ++ (xs.take 0).flatMap encW := by simp [encN]
    rw [← this]
    exact hW2
  case round =>
    clear hW2
    obtain ⟨k, out, hk, rfl, hW⟩ := hrel
    by_cases hlt : k < xs.length
    case neg =>
      have hlt' : ¬ (k : Int) < (xs.length : Int) := by omega
      obtain rfl : k = xs.length := by omega
      rw [List.take_length] at hW
      go_wp2_with fail
      refine (wr_end _ _ _ _ hW.1).mono ?_
      rintro r w4 ⟨a, rfl, ha, ht4, -⟩
      simp only [if_true] at ha ⊢
      have htt := hW.2.1.then0 ht4
      clear hW
      go_wp2_with fail
      go_ret
      exact ⟨_, rfl, ha, htt⟩
    have hlt' : (k : Int) < (xs.length : Int) := by omega
    obtain ⟨b0, off, cap', e, hb0, hc1, hc2⟩ := hv.addr (by omega)
    injection e with e1 _ e2
    subst e1 e2
    have HEL := Lib.hid (fun (W : World) (h : Touch [] w W) => (hv.touch0 h).elem hlt rfl)
    obtain ⟨c0, -, -⟩ := HEL.out _ hW.2.1
    obtain ⟨s1, s2, s3, s4, s5, s6⟩ := HBP.out xs[k] (List.getElem_mem hlt)
    have HNX : Hid (∀ (w' : World) (o' : Value), WrL w w' w.heap.size o' (0, grp xs.length ++ (xs.take k).flatMap encW ++ encN xs[k].ar ++ encN xs[k].st ++ encN xs[k].vl) → EncWRel w w.heap.size xs (.int .i64 ((k : Int) + 1)) w') := Lib.hid (fun w' o' h' => ⟨k + 1, o', hlt, by go_num, by rw [take_flat hlt, encW_eq, ← List.append_assoc, ← List.append_assoc, ← List.append_assoc]; exact h'⟩)
    have hbl := HLEN.out k
    unfold I at c0 HEL
    generalize xs[k].ar = ar at *
    generalize xs[k].st = st at *
    generalize xs[k].vl = vl at *
    generalize grp xs.length ++ (xs.take k).flatMap encW = bs at *
    have l1 := encN_len ar
    have l2 := encN_len st
    go_wp2_with fail
    have e1 := wUint_put bs ar s1 (by omega)
    refine (wr_uint _ _ _ ar _ hW.1 (by omega)).mono ?_
    intro r w3 hd3
    rw [e1] at hd3
    obtain ⟨rfl, o3, h3⟩ := hW.done hd3
    obtain ⟨-, c1, -⟩ := HEL.out _ h3.2.1
    clear hd3 hW e1 c0
    go_wp2_with fail
    have e1 := wUint_put (bs ++ encN ar) st s3 (by rw [List.length_append]; omega)
    refine (wr_uint _ _ _ st _ h3.1 (by omega)).mono ?_
    intro r w4 hd4
    rw [e1] at hd4
    obtain ⟨rfl, o4, h4⟩ := h3.done hd4
    obtain ⟨-, -, c2⟩ := HEL.out _ h4.2.1
    clear hd4 h3 e1 c1
    go_wp2_with fail
    have e1 := wUint_put (bs ++ encN ar ++ encN st) vl s5 (by rw [List.length_append, List.length_append]; omega)
    refine (wr_uint _ _ _ vl _ h4.1 (by omega)).mono ?_
    intro r w5 hd5
    rw [e1] at hd5
    obtain ⟨rfl, o5, h5⟩ := h4.done hd5
    clear hd5 h4 e1 c2
    go_wp2_with fail
    go_roundw
    case rel => exact HNX.out _ _ h5
    case measure => simp [intOf]; omega

end Go.Proofs.YtphpkalbbmlgoaaGreatDoor

namespace Go.Proofs.YtphpkalbbmlgoaaGreatDoor
open Go.RowKit
set_option linter.unusedSimpArgs false

theorem elem_wish : Elem Tryz.prog 22 26 3 24 := Elem.mk (z := .agg #[.int .i64 0, .int .i64 0, .int .i64 0]) Tryz.underlying22 (by kernel_rfl) rfl (by decide)

structure WdSt (w : World) (N pr : Nat) (inp : Value) (L : List UInt8) (s : Int × Nat) (tv : Value) (xs : List Wx) (W : World) : Prop where
  rd : Rd W pr inp L s.1 s.2
  own : Own W 26 3 tv xs.length (xs.flatMap Wx.cells)
  fit : ∀ x ∈ xs, x.Fit
  touch : Touch [] w W
  lo : w.heap.size ≤ pr
  pl : pr < N
  il : ∀ g ∈ rb inp, g < N
  new : ∀ g ∈ blk tv, N ≤ g
  nz : N ≤ W.heap.size

section
variable {w W W1 W2 : World} {N pr : Nat} {inp : Value} {L : List UInt8} {s s' : Int × Nat} {tv tv2 : Value} {xs : List Wx}
theorem WdSt.read (h : WdSt w N pr inp L s tv xs W) (hr : Rd W1 pr inp L s'.1 s'.2) (ht : Touch [pr] W W1) : WdSt w N pr inp L s' tv xs W1 := by
  have hp : pr ∉ blk tv := fun hm => by have := h.new _ hm; have := h.pl; omega
  refine ⟨hr, Own.touch h.own ht (fun g hg hm => ?_), h.fit, h.touch.step ht (fun m hm => ?_), h.lo, h.pl, h.il, h.new, Nat.le_trans h.nz ht.size⟩
  · have : g = pr := by simpa using hm
    subst this
    exact hp hg
  · have : m = pr := by simpa using hm
    subst this
    exact .inr h.lo

theorem WdSt.touch0 (h : WdSt w N pr inp L s tv xs W) (ht : Touch [] W W1) : WdSt w N pr inp L s tv xs W1 :=
  ⟨h.rd.touch ht (by simp) (by simp), Own.touch0 h.own ht, h.fit, h.touch.then0 ht, h.lo, h.pl, h.il, h.new, Nat.le_trans h.nz ht.size⟩

theorem WdSt.push {x : Wx} (h : WdSt w N pr inp L s tv xs W) (hx : x.Fit) (ho : Own W2 26 3 tv2 (xs.length + 1) (xs.flatMap Wx.cells ++ x.cells)) (ht : Touch (blk tv) W W2) (hf : From W tv tv2) : WdSt w N pr inp L s tv2 (xs ++ [x]) W2 := by
  have hp : pr ∉ blk tv := fun hm => by have := h.new _ hm; have := h.pl; omega
  refine ⟨h.rd.touch ht hp (fun g hg hm => by have := h.il g hg; have := h.new g hm; omega), ?_, fun y hy => ?_, h.touch.step ht (fun m hm => .inr (by have := h.new m hm; have := h.pl; have := h.lo; omega)), h.lo, h.pl, h.il, fun g hg => ?_, Nat.le_trans h.nz ht.size⟩
  · rw [List.length_append, List.flatMap_append]
    simpa using ho
  · rcases List.mem_append.1 hy with hy | hy
    · exact h.fit y hy
    · rw [List.mem_singleton.1 hy]
      exact hx
  · rcases hf g hg with h' | h'
    · exact h.new g h'
    · exact Nat.le_trans h.nz h'

theorem WdSt.wishes (h : WdSt w N pr inp L s tv xs W) : Wishes W tv xs := ⟨Own.reads h.own, h.fit⟩

end
def DecWPost (w : World) (d : Int × List Wx) (r : Ending) (w' : World) : Prop := ∃ v, r = .returned (.tuple #[v, .int .i64 d.1]) ∧ Wishes w' v d.2 ∧ Touch [] w w'

theorem DecWPost.err {w w' : World} {d : Int × List Wx} {k : Int} (h : d = (k, [])) (ht : Touch [] w w') : DecWPost w d (.returned (.tuple #[.slice none 0 0, .int .i64 k])) w' := by
  subst h
  exact ⟨_, rfl, ⟨Reads.nil _ _, by simp⟩, ht⟩

theorem DecWPost.ok {w w' : World} {d : Int × List Wx} {v : Value} {xs : List Wx} (h : d = (0, xs)) (hb : Wishes w' v xs) (ht : Touch [] w w') : DecWPost w d (.returned (.tuple #[v, .int .i64 0])) w' := by
  subst h
  exact ⟨_, rfl, hb, ht⟩

def DecWRel (w : World) (N pr : Nat) (inp : Value) (L : List UInt8) (n : Nat) (res : Except Int (List Wx × Nat)) (tv ti : Value) (wr : World) : Prop :=
  ∃ (k a : Nat) (xs : List Wx), k ≤ n ∧ ti = .int .i64 k ∧ xs.length = k ∧ WdSt w N pr inp L (0, a) tv xs wr ∧ res = contX xs (pWishes L (n - k) a)

def DecWRel2 (w : World) (N pr : Nat) (inp : Value) (L : List UInt8) (n : Nat) (res : Except Int (List Wx × Nat)) (tv ti : Value) (wr : World) : Prop :=
  ∃ (k : Nat) (s : Int × Nat) (xs : List Wx), k ≤ n ∧ ti = .int .i64 k ∧ xs.length = k ∧ WdSt w N pr inp L s tv xs wr ∧ (s.1 = 0 → res = contX xs (pWishes L (n - k) s.2)) ∧ (s.1 ≠ 0 → res = .error s.1)

theorem dec2_next {L : List UInt8} {n k : Nat} {s : Int × Nat} {xs : List Wx} {res : Except Int (List Wx × Nat)} (hk : k < n) (h0 : s.1 = 0 → res = contX xs (pWishes L (n - k) s.2)) (h1 : s.1 ≠ 0 → res = .error s.1) :
    ((rWish L s).2.1 = 0 → res = contX (xs ++ [(rWish L s).1]) (pWishes L (n - (k + 1)) (rWish L s).2.2)) ∧ ((rWish L s).2.1 ≠ 0 → res = .error (rWish L s).2.1) := by
  have e : n - k = (n - (k + 1)) + 1 := by omega
  obtain ⟨e0, a⟩ := s
  by_cases hs : e0 = 0
  · subst hs
    have hr := h0 rfl
    rw [e] at hr
    rcases rWish_cases L a with ⟨q, hq, hp, hw⟩ | ⟨x, b, hp, hw⟩
    · rw [hw]
      exact ⟨fun h => absurd h hq, fun _ => by rw [hr, wishes_bad hp]⟩
    · rw [hw]
      exact ⟨fun _ => by rw [hr, wishes_step hp], fun h => absurd rfl h⟩
  · have hw := rWish_err (L := L) (s := (e0, a)) hs
    rw [hw]
    exact ⟨fun h => absurd h hs, fun _ => h1 hs⟩

set_option maxRecDepth 100000 in
set_option maxHeartbeats 8000000 in
theorem decwishes_any (v : Value) (L : List UInt8) (w : World) (hv : Bytes w v L) (hl : L.length ≤ 100000) : Calls Tryz.prog 9 #[v] w (DecWPost w (decW L)) := by
  have HER := Lib.hid (fun (w' : World) (k : Int) => DecWPost.err (w := w) (w' := w') (d := decW L) (k := k))
  have HOK := Lib.hid (fun (w' : World) (v' : Value) (xs : List Wx) => DecWPost.ok (w := w) (w' := w') (d := decW L) (v := v') (xs := xs))
  have HDO : Hid (decW L = match pCount L 500 0 with
    | .error k => (k, [])
    | .ok c => match pWishes L c.1.toNat c.2 with
      | .error k => (k, [])
      | .ok y => if y.2 < L.length then (5, []) else if wishB y.1 then (0, y.1) else (6, [])) := Lib.hid rfl
  generalize hP : DecWPost w (decW L) = Post at *
  generalize decW L = dec at *
  clear hP
  obtain ⟨A, cap, hvf, -⟩ := id hv
  have HRD := Lib.hid (read_any v L w hv (by omega))
  subst hvf
  clear hv
  cases hc : pCount L 500 0 with
  | error k0 =>
    have hr : rRead 0 (pCount L 500) (0, 0) = (0, (k0, 0)) := by unfold rRead; rw [if_pos rfl, hc]
    have hd : dec = (k0, []) := by rw [HDO.out, hc]
    have hk0 := pCount_err hc
    have hre : rEnd L k0 0 = k0 := by unfold rEnd; rw [if_neg hk0]
    have bk : (k0 != 0) = true := by simpa using hk0
    have HRR := Lib.hid hr
    have HD := Lib.hid hd
    have HRE := Lib.hid hre
    clear hr hd hre hc HDO hk0
    go_enter Tryz.func9, Tryz.ntmps9
    go_wp2_with fail
    refine HRD.out.mono ?_
    rintro r w1 ⟨p2, in2, rfl, hp2, -, hr2, ht2⟩
    go_wp2_with fail
    refine (rd_count _ _ _ (0, 0) 500 _ hr2).mono ?_
    rintro r w3 ⟨rfl, hr3, ht3⟩
    rw [HRR.out] at hr3 ⊢
    simp only at hr3 ⊢
    go_wp2_with fail
    refine wp_loop_rounds 1 ?_
    rw [rounds_succ]
    go_wp2_with fail
    refine (rd_end _ _ _ _ _ _ hr3).mono ?_
    rintro r w4 ⟨rfl, n4, rfl⟩
    rw [HRE.out]
    go_wp2_with fail
    exact HER.out _ _ HD.out ((ht2.step ht3 (by simp; omega)).drewN n4)
  | ok c =>
  obtain ⟨c1, c2, c3, c4, c5⟩ := pCount_ok hc
  obtain ⟨n, hn⟩ : ∃ n : Nat, c.1 = (n : Int) := ⟨c.1.toNat, by omega⟩
  have hr : rRead 0 (pCount L 500) (0, 0) = ((n : Int), (0, c.2)) := by unfold rRead; rw [if_pos rfl, hc]; simp only; rw [hn]
  have HRR := Lib.hid hr
  have hd : dec = match pWishes L n c.2 with
      | .error k => (k, [])
      | .ok y => if y.2 < L.length then (5, []) else if wishB y.1 then (0, y.1) else (6, []) := by rw [HDO.out, hc]; simp only; rw [hn]; rfl
  have hn2 : n ≤ 500 := by omega
  obtain ⟨res, hres⟩ : ∃ res, res = pWishes L n c.2 := ⟨_, rfl⟩
  rw [← hres] at hd
  have HR0 : Hid (res = contX [] (pWishes L (n - 0) c.2)) := Lib.hid (by rw [contX_nil, hres]; rfl)
  have HD := Lib.hid hd
  clear hr hd hc HDO hn c1 c2 c3 c4 c5 hres
  go_enter Tryz.func9, Tryz.ntmps9
  go_wp2_with fail
  refine HRD.out.mono ?_
  rintro r w1 ⟨p2, in2, rfl, hp2, -, hr2, ht2⟩
  have hpl := hr2.1.lt
  have hil := hr2.2.2.2.2.1
  have hst0 : WdSt w w1.heap.size p2 in2 L (0, 0) (.slice none 0 0) [] w1 := ⟨hr2, Own.nil _ _ _, by simp, ht2, hp2, hpl, hil, by simp [blk], Nat.le_refl _⟩
  clear hr2 ht2 hil
  go_wp2_with fail
  refine (rd_count _ _ _ (0, 0) 500 _ hst0.rd).mono ?_
  rintro r w3 ⟨rfl, hr3, ht3⟩
  rw [HRR.out] at hr3 ⊢
  simp only at hr3 ⊢
  have hst := hst0.read (s' := (0, c.2)) hr3 ht3
  clear hst0 hr3 ht3
  generalize w1.heap.size = N at *
  go_wp2_with fail
  go_loopw [5, 12] (fun tv ti wr => DecWRel w N p2 in2 L n res tv ti wr) (fun _ ti _ => n - (intOf ti).toNat)
  case atStart => exact ⟨0, c.2, [], by omega, rfl, rfl, hst, HR0.out⟩
  case round =>
    clear hst
    obtain ⟨k, a, xs, hk, rfl, hxl, hst, hres⟩ := hrel
    have HRS := Lib.hid hres
    have HXL := Lib.hid hxl
    clear hres hxl
    by_cases hlt : k < n
    case neg =>
      have hlt' : ¬ (k : Int) < (n : Int) := by omega
      obtain rfl : k = n := by omega
      have hr1 : res = .ok (xs, a) := by rw [HRS.out, Nat.sub_self]; simp [pWishes, contX]
      have hd1 : dec = if a < L.length then (5, []) else if wishB xs then (0, xs) else (6, []) := by rw [HD.out, hr1]
      have HD1 := Lib.hid hd1
      have hre : rEnd L 0 a = if a < L.length then 5 else 0 := by unfold rEnd; rw [if_pos rfl]
      have HRE := Lib.hid hre
      have hpz := hst.lo
      clear hr1 hd1 hre
      go_wp2_with fail
      refine (rd_end _ _ _ _ _ _ hst.rd).mono ?_
      rintro r w4 ⟨rfl, n4, rfl⟩
      rw [HRE.out]
      have hst4 := hst.touch0 ((Touch.refl [] wr).drewN n4)
      have hbd := hst4.wishes
      have htt := hst4.touch
      clear hst hst4
      by_cases haq : a < L.length
      · have hd2 : dec = (5, []) := by rw [HD1.out, if_pos haq]
        have HD2 := Lib.hid hd2
        clear hd2
        rw [if_pos haq]
        go_wp2_with fail
        exact HER.out _ _ HD2.out htt
      · have hd2 : dec = if wishB xs then (0, xs) else (6, []) := by rw [HD1.out, if_neg haq]
        rw [if_neg haq]
        have HVB := Lib.hid (validwishes_any _ xs _ hbd)
        generalize wishB xs = bb at *
        have HD2 := Lib.hid hd2
        clear hd2 HD1
        go_wp2_with fail
        refine HVB.out.mono ?_
        rintro r w5 ⟨rfl, ht5⟩
        have hbd5 := hbd.touch0 ht5
        cases bb with
        | false =>
          go_wp2_with fail
          exact HER.out _ _ HD2.out (htt.then0 ht5)
        | true =>
          go_wp2_with fail
          exact HOK.out _ _ _ HD2.out hbd5 (htt.then0 ht5)
    have hlt' : (k : Int) < (n : Int) := by omega
    have hxk : xs.length ≤ 500 := by rw [HXL.out]; omega
    have HCA := Lib.hid (rWish_cases L a)
    have HFT := Lib.hid (rWish_fit L (0, a))
    have HBAD : Hid (∀ ee, pWish L a = .error ee → dec = (ee, [])) := Lib.hid (fun ee h => by
      rw [HD.out, HRS.out, show n - k = (n - (k + 1)) + 1 by omega, wishes_bad h])
    have HNX : Hid (∀ x b, pWish L a = .ok (x, b) → res = contX (xs ++ [x]) (pWishes L (n - (k + 1)) b)) := Lib.hid (fun x b h => by
      rw [HRS.out, show n - k = (n - (k + 1)) + 1 by omega, wishes_step h])
    unfold rWish at HCA HFT
    go_wp2_with fail
    obtain ⟨⟨x0, s1⟩, h1⟩ : ∃ y, rRead 0 (pUint L) (0, a) = y := ⟨_, rfl⟩
    refine (rd_uint _ _ _ (0, a) _ hst.rd).mono ?_
    rintro r w4 ⟨rfl, hr4, ht4⟩
    rw [h1] at hr4 HCA HFT ⊢
    simp only at hr4 HCA HFT ⊢
    have hst4 := hst.read hr4 ht4
    clear hst hr4 ht4 h1
    go_wp2_with fail
    obtain ⟨⟨x1, s2⟩, h2⟩ : ∃ y, rRead 0 (pUint L) s1 = y := ⟨_, rfl⟩
    refine (rd_uint _ _ _ s1 _ hst4.rd).mono ?_
    rintro r w5 ⟨rfl, hr5, ht5⟩
    rw [h2] at hr5 HCA HFT ⊢
    simp only at hr5 HCA HFT ⊢
    have hst5 := hst4.read hr5 ht5
    clear hst4 hr5 ht5 h2
    go_wp2_with fail
    obtain ⟨⟨x2, s3⟩, h3⟩ : ∃ y, rRead 0 (pUint L) s2 = y := ⟨_, rfl⟩
    refine (rd_uint _ _ _ s2 _ hst5.rd).mono ?_
    rintro r w6 ⟨rfl, hr6, ht6⟩
    rw [h3] at hr6 HCA HFT ⊢
    simp only at hr6 HCA HFT ⊢
    have hst6 := hst5.read hr6 ht6
    clear hst5 hr6 ht6 h3
    go_wp2_with fail
    have hst7 := hst6.touch0 ((Touch.refl [] _).alloc (.cells #[.int .i64 x0, .int .i64 x1, .int .i64 x2] 26))
    have kb := Blk.new w6 26 #[.int .i64 x0, .int .i64 x1, .int .i64 x2]
    clear hst6
    generalize w6.alloc (.cells #[.int .i64 x0, .int .i64 x1, .int .i64 x2] 26) = wa at *
    have b0 := kb.cell 0
    have b1 := kb.cell 1
    have b2 := kb.cell 2
    simp at b0 b1 b2
    clear kb
    refine (rd_err _ _ _ _ _ _ hst7.rd).mono ?_
    rintro r w9 ⟨rfl, rfl⟩
    by_cases hs0 : s3.1 = 0
    · have hb0 : (s3.1 != 0) = false := by simpa using hs0
      have hpw : pWish L a = .ok (⟨x0, x1, x2⟩, s3.2) := by
        rcases HCA.out with ⟨q, hq, hp, hw⟩ | ⟨x, b, hp, hw⟩
        · exact absurd ((show s3.1 = q from hw).symm.trans hs0) hq
        · obtain ⟨e1, e2⟩ := Prod.mk.inj hw
          rw [hp, ← e1, e2]
      have HNE := Lib.hid (HNX.out _ _ hpw)
      have hd0 : WdSt w N p2 in2 L (0, s3.2) _ xs _ := ⟨by have := hst7.rd; rw [hs0] at this; exact this, hst7.own, hst7.fit, hst7.touch, hst7.lo, hst7.pl, hst7.il, hst7.new, hst7.nz⟩
      have hfx : Wx.Fit ⟨x0, x1, x2⟩ := HFT.out
      clear hst7 hpw hs0 HCA HFT HNX HBAD
      go_wp2_with (at_builtin; go_must (refine app_new elem_wish hd0.own [Value.int .i64 x0, Value.int .i64 x1, Value.int .i64 x2] 1 1 (by omega) (by unfold maxLen; omega) ?_); intro v10 w10 ho10 ht10 hf10)
      have hfin := hd0.push hfx ho10 ht10 hf10
      go_roundw
      case rel => exact ⟨k + 1, s3.2, _, by omega, by go_num, by rw [List.length_append, HXL.out]; rfl, hfin, HNE.out⟩
      case measure => simp [intOf]; omega
    · have hb0 : (s3.1 != 0) = true := by simpa using hs0
      have hpw : pWish L a = .error s3.1 := by
        rcases HCA.out with ⟨q, hq, hp, hw⟩ | ⟨x, b, hp, hw⟩
        · rw [hp, show s3.1 = q from hw]
        · obtain ⟨e1, e2⟩ := Prod.mk.inj hw
          exact absurd (by rw [e2]) hs0
      have HDD := Lib.hid (HBAD.out _ hpw)
      have HRE : Hid (rEnd L s3.1 s3.2 = s3.1) := Lib.hid (by unfold rEnd; rw [if_neg hs0])
      have hrd := hst7.rd
      have htt := hst7.touch
      clear hpw hst7 hs0 HCA HFT HNX HBAD
      generalize s3.1 = ee at *
      go_wp2_with fail
      refine (rd_end _ _ _ _ _ _ hrd).mono ?_
      rintro r w4 ⟨rfl, n4, rfl⟩
      rw [HRE.out]
      go_wp2_with fail
      exact HER.out _ _ HDD.out (htt.drewN n4)

end Go.Proofs.YtphpkalbbmlgoaaGreatDoor

namespace Go.Proofs.YtphpkalbbmlgoaaGreatDoor
open Go.RowKit
set_option linter.unusedSimpArgs false

set_option maxRecDepth 100000 in
set_option maxHeartbeats 8000000 in
theorem lawwishes_any (v : Value) (L : List UInt8) (w : World) (hv : Bytes w v L) (hl : L.length ≤ 100000) : Calls Tryz.prog 10 #[v] w (DecWPost w (decW L)) := by
  have HER := Lib.hid (fun (w' : World) (k : Int) => DecWPost.err (w := w) (w' := w') (d := decW L) (k := k))
  have HOK := Lib.hid (fun (w' : World) (v' : Value) (xs : List Wx) => DecWPost.ok (w := w) (w' := w') (d := decW L) (v := v') (xs := xs))
  have HDO : Hid (decW L = match pCount L 500 0 with
    | .error k => (k, [])
    | .ok c => match pWishes L c.1.toNat c.2 with
      | .error k => (k, [])
      | .ok y => if y.2 < L.length then (5, []) else if wishB y.1 then (0, y.1) else (6, [])) := Lib.hid rfl
  generalize hP : DecWPost w (decW L) = Post at *
  generalize decW L = dec at *
  clear hP
  obtain ⟨A, cap, hvf, -⟩ := id hv
  have HRD := Lib.hid (read_any v L w hv (by omega))
  subst hvf
  clear hv
  cases hc : pCount L 500 0 with
  | error k0 =>
    have hr : rRead 0 (pCount L 500) (0, 0) = (0, (k0, 0)) := by unfold rRead; rw [if_pos rfl, hc]
    have hd : dec = (k0, []) := by rw [HDO.out, hc]
    have hk0 := pCount_err hc
    have hre : rEnd L k0 0 = k0 := by unfold rEnd; rw [if_neg hk0]
    have bk : (k0 != 0) = true := by simpa using hk0
    have HRR := Lib.hid hr
    have HD := Lib.hid hd
    have HRE := Lib.hid hre
    clear hr hd hre hc HDO hk0
    go_enter Tryz.func10, Tryz.ntmps10
    go_wp2_with fail
    refine HRD.out.mono ?_
    rintro r w1 ⟨p2, in2, rfl, hp2, -, hr2, ht2⟩
    go_wp2_with fail
    refine (rd_count _ _ _ (0, 0) 500 _ hr2).mono ?_
    rintro r w3 ⟨rfl, hr3, ht3⟩
    rw [HRR.out] at hr3 ⊢
    simp only at hr3 ⊢
    go_wp2_with fail
    refine wp_loop_rounds 1 ?_
    rw [rounds_succ]
    go_wp2_with fail
    refine (rd_end _ _ _ _ _ _ hr3).mono ?_
    rintro r w4 ⟨rfl, n4, rfl⟩
    rw [HRE.out]
    go_wp2_with fail
    exact HER.out _ _ HD.out ((ht2.step ht3 (by simp; omega)).drewN n4)
  | ok c =>
  obtain ⟨c1, c2, c3, c4, c5⟩ := pCount_ok hc
  obtain ⟨n, hn⟩ : ∃ n : Nat, c.1 = (n : Int) := ⟨c.1.toNat, by omega⟩
  have hr : rRead 0 (pCount L 500) (0, 0) = ((n : Int), (0, c.2)) := by unfold rRead; rw [if_pos rfl, hc]; simp only; rw [hn]
  have HRR := Lib.hid hr
  have hd : dec = match pWishes L n c.2 with
      | .error k => (k, [])
      | .ok y => if y.2 < L.length then (5, []) else if wishB y.1 then (0, y.1) else (6, []) := by rw [HDO.out, hc]; simp only; rw [hn]; rfl
  have hn2 : n ≤ 500 := by omega
  obtain ⟨res, hres⟩ : ∃ res, res = pWishes L n c.2 := ⟨_, rfl⟩
  rw [← hres] at hd
  have HR0 : Hid (res = contX [] (pWishes L (n - 0) c.2)) := Lib.hid (by rw [contX_nil, hres]; rfl)
  have HD := Lib.hid hd
  clear hr hd hc HDO hn c1 c2 c3 c4 c5 hres
  go_enter Tryz.func10, Tryz.ntmps10
  go_wp2_with fail
  refine HRD.out.mono ?_
  rintro r w1 ⟨p2, in2, rfl, hp2, -, hr2, ht2⟩
  have hpl := hr2.1.lt
  have hil := hr2.2.2.2.2.1
  have hst0 : WdSt w w1.heap.size p2 in2 L (0, 0) (.slice none 0 0) [] w1 := ⟨hr2, Own.nil _ _ _, by simp, ht2, hp2, hpl, hil, by simp [blk], Nat.le_refl _⟩
  clear hr2 ht2 hil
  go_wp2_with fail
  refine (rd_count _ _ _ (0, 0) 500 _ hst0.rd).mono ?_
  rintro r w3 ⟨rfl, hr3, ht3⟩
  rw [HRR.out] at hr3 ⊢
  simp only at hr3 ⊢
  have hst := hst0.read (s' := (0, c.2)) hr3 ht3
  clear hst0 hr3 ht3
  generalize w1.heap.size = N at *
  go_wp2_with fail
  go_loopw [6, 7] (fun tv ti wr => DecWRel2 w N p2 in2 L n res tv ti wr) (fun _ ti _ => n - (intOf ti).toNat)
  case atStart => exact ⟨0, (0, c.2), [], by omega, rfl, rfl, hst, fun _ => HR0.out, fun h => absurd rfl h⟩
  case round =>
    clear hst
    obtain ⟨k, s, xs, hk, rfl, hxl, hst, hres0, hres1⟩ := hrel
    have HR0' := Lib.hid hres0
    have HR1' := Lib.hid hres1
    have HXL := Lib.hid hxl
    clear hres0 hres1 hxl
    by_cases hlt : k < n
    case neg =>
      have hlt' : ¬ (k : Int) < (n : Int) := by omega
      obtain rfl : k = n := by omega
      have hd1 : dec = if s.1 ≠ 0 then (s.1, []) else if s.2 < L.length then (5, []) else if wishB xs then (0, xs) else (6, []) := by
        by_cases h : s.1 = 0
        · rw [if_neg (fun k => k h), HD.out, HR0'.out h, Nat.sub_self]
          simp [pWishes, contX]
        · rw [if_pos h, HD.out, HR1'.out h]
      have HD1 := Lib.hid hd1
      have HRE : Hid (rEnd L s.1 s.2 = if s.1 = 0 then (if s.2 < L.length then 5 else 0) else s.1) := Lib.hid rfl
      clear hd1 HD HR0' HR1'
      go_wp2_with fail
      refine (rd_end _ _ _ _ _ _ hst.rd).mono ?_
      rintro r w4 ⟨rfl, n4, rfl⟩
      rw [HRE.out]
      have hst4 := hst.touch0 ((Touch.refl [] wr).drewN n4)
      have hbd := hst4.wishes
      have htt := hst4.touch
      clear hst hst4 HRE
      by_cases hs0 : s.1 = 0
      · have hd2 : dec = if s.2 < L.length then (5, []) else if wishB xs then (0, xs) else (6, []) := by rw [HD1.out, if_neg (fun k => k hs0)]
        rw [if_pos hs0]
        clear HD1 hs0
        by_cases haq : s.2 < L.length
        · rw [if_pos haq] at hd2 ⊢
          have HD2 := Lib.hid hd2
          clear hd2
          go_wp2_with fail
          exact HER.out _ _ HD2.out htt
        · rw [if_neg haq] at hd2 ⊢
          have HVB := Lib.hid (lawvalid_any _ xs _ hbd)
          generalize wishB xs = bb at *
          have HD2 := Lib.hid hd2
          clear hd2
          go_wp2_with fail
          refine HVB.out.mono ?_
          rintro r w5 ⟨rfl, ht5⟩
          have hbd5 := hbd.touch0 ht5
          cases bb with
          | false =>
            go_wp2_with fail
            exact HER.out _ _ HD2.out (htt.then0 ht5)
          | true =>
            go_wp2_with fail
            exact HOK.out _ _ _ HD2.out hbd5 (htt.then0 ht5)
      · have hd2 : dec = (s.1, []) := by rw [HD1.out, if_pos hs0]
        have hb0 : (s.1 != 0) = true := by simpa using hs0
        rw [if_neg hs0]
        have HD2 := Lib.hid hd2
        clear hd2 HD1 hs0
        generalize s.1 = ee at *
        go_wp2_with fail
        exact HER.out _ _ HD2.out htt
    have hlt' : (k : Int) < (n : Int) := by omega
    have hxk : xs.length ≤ 500 := by rw [HXL.out]; omega
    have HNX := Lib.hid (dec2_next hlt HR0'.out HR1'.out)
    have HFT := Lib.hid (rWish_fit L s)
    unfold rWish at HNX HFT
    clear HR0' HR1'
    go_wp2_with fail
    obtain ⟨⟨x0, s1⟩, h1⟩ : ∃ y, rRead 0 (pUint L) s = y := ⟨_, rfl⟩
    refine (rd_uint _ _ _ s _ hst.rd).mono ?_
    rintro r w4 ⟨rfl, hr4, ht4⟩
    rw [h1] at hr4 HNX HFT ⊢
    simp only at hr4 HNX HFT ⊢
    have hst4 := hst.read hr4 ht4
    clear hst hr4 ht4 h1
    go_wp2_with fail
    obtain ⟨⟨x1, s2⟩, h2⟩ : ∃ y, rRead 0 (pUint L) s1 = y := ⟨_, rfl⟩
    refine (rd_uint _ _ _ s1 _ hst4.rd).mono ?_
    rintro r w5 ⟨rfl, hr5, ht5⟩
    rw [h2] at hr5 HNX HFT ⊢
    simp only at hr5 HNX HFT ⊢
    have hst5 := hst4.read hr5 ht5
    clear hst4 hr5 ht5 h2
    go_wp2_with fail
    obtain ⟨⟨x2, s3⟩, h3⟩ : ∃ y, rRead 0 (pUint L) s2 = y := ⟨_, rfl⟩
    refine (rd_uint _ _ _ s2 _ hst5.rd).mono ?_
    rintro r w6 ⟨rfl, hr6, ht6⟩
    rw [h3] at hr6 HNX HFT ⊢
    simp only at hr6 HNX HFT ⊢
    have hst6 := hst5.read hr6 ht6
    clear hst5 hr6 ht6 h3
    go_wp2_with (at_builtin; go_must (refine app_new elem_wish hst6.own [Value.int .i64 x0, Value.int .i64 x1, Value.int .i64 x2] 1 1 (by omega) (by unfold maxLen; omega) ?_); intro v10 w10 ho10 ht10 hf10)
    have hfin := hst6.push (x := ⟨x0, x1, x2⟩) HFT.out ho10 ht10 hf10
    go_roundw
    case rel => exact ⟨k + 1, s3, _, by omega, by go_num, by rw [List.length_append, HXL.out]; rfl, hfin, HNX.out.1, HNX.out.2⟩
    case measure => simp [intOf]; omega

end Go.Proofs.YtphpkalbbmlgoaaGreatDoor
