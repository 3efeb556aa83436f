/- The methods of the reader of package wire: numbers. -/
import Derived.Test.YtpbknnkobhjjcaaReader3
namespace Go.Proofs.Ytpbknnkobhjjcaa
open Go.RowKit

/-- What a method of the reader returns and comes to. -/
def rRead {α : Type} (zero : α) (res : Nat → Except Int (α × Nat)) (s : Int × Nat) : α × (Int × Nat) :=
  if s.1 = 0 then (match res s.2 with | .ok x => (x.1, (0, x.2)) | .error k => (zero, (k, s.2))) else (zero, s)
def RdOut (w : World) (p : Nat) (inp : Value) (l : List UInt8) (v : Value) (s' : Int × Nat) (r : Ending) (w' : World) : Prop := r = .returned v ∧ Rd w' p inp l s'.1 s'.2 ∧ Touch [p] w w'

theorem Rd.store {w : World} {p : Nat} {inp : Value} {l : List UInt8} {e : Int} {a : Nat} (h : Rd w p inp l e a) {c : Nat} (hp : c ≠ p) (hi : c ∉ rb inp) (o : Nat) (u : Value) : Rd (w.setCell ⟨c, o, none⟩ u) p inp l e a :=
  h.touch ((Touch.refl [c] w).setCell (.inl (by simp)) _) (by simp; omega) (fun b hb hm => by simp at hm; subst hm; exact hi hb)

set_option maxRecDepth 100000 in
set_option maxHeartbeats 400000 in
theorem uint_cl (p N c : Nat) (inp : Value) (l : List UInt8) (a : Nat) (w : World) (h : Rd w p inp l 0 a) (hN : Blk w N 52 #[.pointer (some ⟨p, 0, none⟩)]) (hc : Blk w c 3 #[.int .i64 0]) (hp : c ≠ p) (hi : c ∉ rb inp) :
    Calls Try.prog 87 #[.pointer (some ⟨N, 0, none⟩), .pointer (some ⟨c, 0, none⟩)] w (ClPost w p inp l [c] ((pUint l  a).map (·.2)) fun w' => ∀ x, pUint l  a = .ok x → Blk w' c 3 #[.int .i64 x.1]) := by
  have c0 := hN.cell 0
  simp at c0
  cases hg : pGroup l 9 0 0 a with
  | error k =>
    have e1 : pUint l  a = .error k := by unfold pUint; rw [hg]; rfl
    first | rw [e1] | skip
    have HG := Lib.hid hg
    clear hg e1
    go_enter Try.func87, Try.ntmps87
    go_wp2_with fail
    refine (group_any p inp l 0 a 9 w h (by omega)).mono ?_
    rintro r w1 hr
    obtain ⟨ht, rfl, a1, hr1⟩ := hr.err HG.out
    unfold bad
    go_wp2_with fail
    exact ⟨rfl, rfl, ⟨a1, hr1⟩, ht⟩
  | ok x =>
    obtain ⟨n, a1⟩ := x
    have hn := (pGroup9 hg).1
    simp only at hn
    have e1 : pUint l  a = .ok ((n : Int), a1) := by unfold pUint; rw [hg]; rfl
    first | rw [e1] | skip
    have HG := Lib.hid hg
    clear hg e1
    go_enter Try.func87, Try.ntmps87
    go_wp2_with fail
    refine (group_any p inp l 0 a 9 w h (by omega)).mono ?_
    rintro r w1 hr
    obtain ⟨ht, rfl, hr1⟩ := hr.val HG.out
    simp only [gval] at hr1 ⊢
    clear hr
    have hc1 := hc.touch ht (by simpa using hp)
    have c1 := hc1.cell 0
    have c2 := hc1.frozen 0
    simp at c1
    go_wp2_with fail
    go_end0
    refine ⟨rfl, hr1.store hp hi _ _, (ht.mono (by simp)).setCell (.inl (by simp)) _, fun x hx => ?_⟩
    cases hx
    have := hc1.set_ 0 (.int .i64 ((n : Int)))
    simpa using this

set_option maxRecDepth 100000 in
set_option maxHeartbeats 400000 in
theorem rd_uint (p : Nat) (inp : Value) (l : List UInt8) (s : Int × Nat) (w : World) (h : Rd w p inp l s.1 s.2) :
    Calls Try.prog 35 #[.pointer (some ⟨p, 0, none⟩)] w (RdOut w p inp l (.int .i64 (rRead 0 (pUint l ) s).1) (rRead 0 (pUint l ) s).2) := by
  obtain ⟨e, a⟩ := s
  simp only at h
  have hmf := make_func
  have hp := h.1.lt
  have hi := Lib.hid h.2.2.2.2.1
  have ht2 : Touch [] w ((w.alloc (.cells #[.pointer (some ⟨p, 0, none⟩)] 52)).alloc (.cells #[.int .i64 0] 3)) := ((Touch.refl [] w).alloc _).alloc _
  have hN : Blk ((w.alloc (.cells #[.pointer (some ⟨p, 0, none⟩)] 52)).alloc (.cells #[.int .i64 0] 3)) w.heap.size 52 #[.pointer (some ⟨p, 0, none⟩)] := (Blk.new _ _ _).alloc _
  have hc : Blk ((w.alloc (.cells #[.pointer (some ⟨p, 0, none⟩)] 52)).alloc (.cells #[.int .i64 0] 3)) (w.heap.size + 1) 3 #[.int .i64 0] := by
    have := Blk.new (w.alloc (.cells #[.pointer (some ⟨p, 0, none⟩)] 52)) 3 #[.int .i64 0]
    simpa using this
  have h2 := h.touch ht2 (by simp) (fun _ _ => by simp)
  by_cases he : e = 0
  · subst he
    go_enter Try.func35, Try.ntmps35
    go_wp2_with fail
    generalize (w.alloc (.cells #[.pointer (some ⟨p, 0, none⟩)] 52)).alloc (.cells #[.int .i64 0] 3) = w2 at *
    refine (value_any p inp l a 87 _ [(w.heap.size + 1)] ((pUint l  a).map (·.2)) (fun w' => ∀ x, pUint l  a = .ok x → Blk w' (w.heap.size + 1) 3 #[.int .i64 x.1]) w2 h2 (fun W => by simp [go_sem]) (fun w1 ht1 => ?_)).mono ?_
    · exact uint_cl p w.heap.size (w.heap.size + 1)  inp l a  w1 (h2.touch ht1 (by simp) (fun _ _ => by simp)) (hN.touch ht1 (by simp)) (hc.touch ht1 (by simp)) (by omega) (fun hm => by have := hi.out _ hm; omega)
    rintro r w3 ⟨rfl, hr⟩
    cases hu : pUint l  a with
    | error k =>
      rw [hu] at hr
      obtain ⟨hr1, ht3⟩ := hr
      have e1 : rRead 0 (pUint l ) (0, a) = (0, (k, a)) := by unfold rRead; simp only [if_true]; rw [hu]
      have HE := Lib.hid e1
      have c1 := (hc.touch ht3 (by simp; omega)).cell 0
      simp at c1
      clear hu e1
      go_wp2_with fail
      go_ret
      rw [HE.out]
      exact ⟨rfl, hr1, ((Touch.refl [p] w).then0 ht2).trans ht3⟩
    | ok x =>
      rw [hu] at hr
      obtain ⟨hr1, ht3, hG⟩ := hr
      have e1 : rRead 0 (pUint l ) (0, a) = (x.1, (0, x.2)) := by unfold rRead; simp only [if_true]; rw [hu]
      have HE := Lib.hid e1
      have c1 := (hG x rfl).cell 0
      simp at c1
      clear hu e1 hG
      go_wp2_with fail
      go_ret
      rw [HE.out]
      exact ⟨rfl, hr1, ((Touch.refl [p] w).then0 ht2).step ht3 (by simp)⟩
  · have e1 : rRead 0 (pUint l ) (e, a) = (0, (e, a)) := by unfold rRead; rw [if_neg he]
    have HE := Lib.hid e1
    clear e1
    go_enter Try.func35, Try.ntmps35
    go_wp2_with fail
    generalize (w.alloc (.cells #[.pointer (some ⟨p, 0, none⟩)] 52)).alloc (.cells #[.int .i64 0] 3) = w2 at *
    refine (value_err p inp l e a _ w2 h2 he).mono ?_
    rintro r w3 ⟨rfl, ht3⟩
    have c1 := (hc.touch ht3 (by simp)).cell 0
    simp at c1
    go_wp2_with fail
    go_ret
    rw [HE.out]
    exact ⟨rfl, h2.touch ht3 (by simp) (fun _ _ => by simp), ((Touch.refl [p] w).then0 ht2).then0 ht3⟩

set_option maxRecDepth 100000 in
set_option maxHeartbeats 400000 in
theorem int_cl (p N c : Nat) (inp : Value) (l : List UInt8) (a : Nat) (w : World) (h : Rd w p inp l 0 a) (hN : Blk w N 52 #[.pointer (some ⟨p, 0, none⟩)]) (hc : Blk w c 3 #[.int .i64 0]) (hp : c ≠ p) (hi : c ∉ rb inp) :
    Calls Try.prog 84 #[.pointer (some ⟨N, 0, none⟩), .pointer (some ⟨c, 0, none⟩)] w (ClPost w p inp l [c] ((pInt l  a).map (·.2)) fun w' => ∀ x, pInt l  a = .ok x → Blk w' c 3 #[.int .i64 x.1]) := by
  have c0 := hN.cell 0
  simp at c0
  cases hg : pInt l a with
  | error k =>
    have e1 : pInt l  a = .error k := by exact hg
    first | rw [e1] | skip
    have HG := Lib.hid hg
    clear hg e1
    go_enter Try.func84, Try.ntmps84
    go_wp2_with fail
    refine (signed_rd p inp l 0 a w h).mono ?_
    rintro r w1 hr
    obtain ⟨ht, rfl, a1, hr1⟩ := hr.err HG.out
    unfold bad
    go_wp2_with fail
    exact ⟨rfl, rfl, ⟨a1, hr1⟩, ht⟩
  | ok x =>
    obtain ⟨n, a1⟩ := x
    have e1 : pInt l  a = .ok (n, a1) := by exact hg
    first | rw [e1] | skip
    have HG := Lib.hid hg
    clear hg e1
    go_enter Try.func84, Try.ntmps84
    go_wp2_with fail
    refine (signed_rd p inp l 0 a w h).mono ?_
    rintro r w1 hr
    obtain ⟨ht, rfl, hr1⟩ := hr.val HG.out
    simp only [ival] at hr1 ⊢
    clear hr
    have hc1 := hc.touch ht (by simpa using hp)
    have c1 := hc1.cell 0
    have c2 := hc1.frozen 0
    simp at c1
    go_wp2_with fail
    go_end0
    refine ⟨rfl, hr1.store hp hi _ _, (ht.mono (by simp)).setCell (.inl (by simp)) _, fun x hx => ?_⟩
    cases hx
    have := hc1.set_ 0 (.int .i64 (n))
    simpa using this

set_option maxRecDepth 100000 in
set_option maxHeartbeats 400000 in
theorem rd_int (p : Nat) (inp : Value) (l : List UInt8) (s : Int × Nat) (w : World) (h : Rd w p inp l s.1 s.2) :
    Calls Try.prog 33 #[.pointer (some ⟨p, 0, none⟩)] w (RdOut w p inp l (.int .i64 (rRead 0 (pInt l ) s).1) (rRead 0 (pInt l ) s).2) := by
  obtain ⟨e, a⟩ := s
  simp only at h
  have hmf := make_func
  have hp := h.1.lt
  have hi := Lib.hid h.2.2.2.2.1
  have ht2 : Touch [] w ((w.alloc (.cells #[.pointer (some ⟨p, 0, none⟩)] 52)).alloc (.cells #[.int .i64 0] 3)) := ((Touch.refl [] w).alloc _).alloc _
  have hN : Blk ((w.alloc (.cells #[.pointer (some ⟨p, 0, none⟩)] 52)).alloc (.cells #[.int .i64 0] 3)) w.heap.size 52 #[.pointer (some ⟨p, 0, none⟩)] := (Blk.new _ _ _).alloc _
  have hc : Blk ((w.alloc (.cells #[.pointer (some ⟨p, 0, none⟩)] 52)).alloc (.cells #[.int .i64 0] 3)) (w.heap.size + 1) 3 #[.int .i64 0] := by
    have := Blk.new (w.alloc (.cells #[.pointer (some ⟨p, 0, none⟩)] 52)) 3 #[.int .i64 0]
    simpa using this
  have h2 := h.touch ht2 (by simp) (fun _ _ => by simp)
  by_cases he : e = 0
  · subst he
    go_enter Try.func33, Try.ntmps33
    go_wp2_with fail
    generalize (w.alloc (.cells #[.pointer (some ⟨p, 0, none⟩)] 52)).alloc (.cells #[.int .i64 0] 3) = w2 at *
    refine (value_any p inp l a 84 _ [(w.heap.size + 1)] ((pInt l  a).map (·.2)) (fun w' => ∀ x, pInt l  a = .ok x → Blk w' (w.heap.size + 1) 3 #[.int .i64 x.1]) w2 h2 (fun W => by simp [go_sem]) (fun w1 ht1 => ?_)).mono ?_
    · exact int_cl p w.heap.size (w.heap.size + 1)  inp l a  w1 (h2.touch ht1 (by simp) (fun _ _ => by simp)) (hN.touch ht1 (by simp)) (hc.touch ht1 (by simp)) (by omega) (fun hm => by have := hi.out _ hm; omega)
    rintro r w3 ⟨rfl, hr⟩
    cases hu : pInt l  a with
    | error k =>
      rw [hu] at hr
      obtain ⟨hr1, ht3⟩ := hr
      have e1 : rRead 0 (pInt l ) (0, a) = (0, (k, a)) := by unfold rRead; simp only [if_true]; rw [hu]
      have HE := Lib.hid e1
      have c1 := (hc.touch ht3 (by simp; omega)).cell 0
      simp at c1
      clear hu e1
      go_wp2_with fail
      go_ret
      rw [HE.out]
      exact ⟨rfl, hr1, ((Touch.refl [p] w).then0 ht2).trans ht3⟩
    | ok x =>
      rw [hu] at hr
      obtain ⟨hr1, ht3, hG⟩ := hr
      have e1 : rRead 0 (pInt l ) (0, a) = (x.1, (0, x.2)) := by unfold rRead; simp only [if_true]; rw [hu]
      have HE := Lib.hid e1
      have c1 := (hG x rfl).cell 0
      simp at c1
      clear hu e1 hG
      go_wp2_with fail
      go_ret
      rw [HE.out]
      exact ⟨rfl, hr1, ((Touch.refl [p] w).then0 ht2).step ht3 (by simp)⟩
  · have e1 : rRead 0 (pInt l ) (e, a) = (0, (e, a)) := by unfold rRead; rw [if_neg he]
    have HE := Lib.hid e1
    clear e1
    go_enter Try.func33, Try.ntmps33
    go_wp2_with fail
    generalize (w.alloc (.cells #[.pointer (some ⟨p, 0, none⟩)] 52)).alloc (.cells #[.int .i64 0] 3) = w2 at *
    refine (value_err p inp l e a _ w2 h2 he).mono ?_
    rintro r w3 ⟨rfl, ht3⟩
    have c1 := (hc.touch ht3 (by simp)).cell 0
    simp at c1
    go_wp2_with fail
    go_ret
    rw [HE.out]
    exact ⟨rfl, h2.touch ht3 (by simp) (fun _ _ => by simp), ((Touch.refl [p] w).then0 ht2).then0 ht3⟩

set_option maxRecDepth 100000 in
set_option maxHeartbeats 400000 in
theorem count_cl (p N c L : Nat) (inp : Value) (l : List UInt8) (a : Nat) (limit : Int) (w : World) (h : Rd w p inp l 0 a) (hN : Blk w N 52 #[.pointer (some ⟨p, 0, none⟩)]) (hL : Blk w L 3 #[.int .i64 limit]) (hc : Blk w c 3 #[.int .i64 0]) (hp : c ≠ p) (hi : c ∉ rb inp) :
    Calls Try.prog 99 #[.pointer (some ⟨N, 0, none⟩), .pointer (some ⟨L, 0, none⟩), .pointer (some ⟨c, 0, none⟩)] w (ClPost w p inp l [c] ((pCount l limit a).map (·.2)) fun w' => ∀ x, pCount l limit a = .ok x → Blk w' c 3 #[.int .i64 x.1]) := by
  have c0 := hN.cell 0
  simp at c0
  have cL := hL.cell 0
  simp at cL
  cases hg : pCount l limit a with
  | error k =>
    have e1 : pCount l limit a = .error k := by exact hg
    first | rw [e1] | skip
    have HG := Lib.hid hg
    clear hg e1
    go_enter Try.func99, Try.ntmps99
    go_wp2_with fail
    refine (count_any p inp l 0 a limit w h).mono ?_
    rintro r w1 hr
    obtain ⟨ht, rfl, a1, hr1⟩ := hr.err HG.out
    unfold bad
    go_wp2_with fail
    exact ⟨rfl, rfl, ⟨a1, hr1⟩, ht⟩
  | ok x =>
    obtain ⟨n, a1⟩ := x
    have e1 : pCount l limit a = .ok (n, a1) := by exact hg
    first | rw [e1] | skip
    have HG := Lib.hid hg
    clear hg e1
    go_enter Try.func99, Try.ntmps99
    go_wp2_with fail
    refine (count_any p inp l 0 a limit w h).mono ?_
    rintro r w1 hr
    obtain ⟨ht, rfl, hr1⟩ := hr.val HG.out
    simp only [ival] at hr1 ⊢
    clear hr
    have hc1 := hc.touch ht (by simpa using hp)
    have c1 := hc1.cell 0
    have c2 := hc1.frozen 0
    simp at c1
    go_wp2_with fail
    go_end0
    refine ⟨rfl, hr1.store hp hi _ _, (ht.mono (by simp)).setCell (.inl (by simp)) _, fun x hx => ?_⟩
    cases hx
    have := hc1.set_ 0 (.int .i64 (n))
    simpa using this

set_option maxRecDepth 100000 in
set_option maxHeartbeats 400000 in
theorem rd_count (p : Nat) (inp : Value) (l : List UInt8) (s : Int × Nat) (limit : Int) (w : World) (h : Rd w p inp l s.1 s.2) :
    Calls Try.prog 50 #[.pointer (some ⟨p, 0, none⟩), .int .i64 limit] w (RdOut w p inp l (.int .i64 (rRead 0 (pCount l limit) s).1) (rRead 0 (pCount l limit) s).2) := by
  obtain ⟨e, a⟩ := s
  simp only at h
  have hmf := make_func
  have hp := h.1.lt
  have hi := Lib.hid h.2.2.2.2.1
  have ht2 : Touch [] w (((w.alloc (.cells #[.pointer (some ⟨p, 0, none⟩)] 52)).alloc (.cells #[.int .i64 limit] 3)).alloc (.cells #[.int .i64 0] 3)) := (((Touch.refl [] w).alloc _).alloc _).alloc _
  have hN : Blk (((w.alloc (.cells #[.pointer (some ⟨p, 0, none⟩)] 52)).alloc (.cells #[.int .i64 limit] 3)).alloc (.cells #[.int .i64 0] 3)) w.heap.size 52 #[.pointer (some ⟨p, 0, none⟩)] := ((Blk.new _ _ _).alloc _).alloc _
  have hL : Blk (((w.alloc (.cells #[.pointer (some ⟨p, 0, none⟩)] 52)).alloc (.cells #[.int .i64 limit] 3)).alloc (.cells #[.int .i64 0] 3)) (w.heap.size + 1) 3 #[.int .i64 limit] := by
    have := (Blk.new (w.alloc (.cells #[.pointer (some ⟨p, 0, none⟩)] 52)) 3 #[.int .i64 limit]).alloc (.cells #[.int .i64 0] 3)
    simpa using this
  have hc : Blk (((w.alloc (.cells #[.pointer (some ⟨p, 0, none⟩)] 52)).alloc (.cells #[.int .i64 limit] 3)).alloc (.cells #[.int .i64 0] 3)) (w.heap.size + 2) 3 #[.int .i64 0] := by
    have := Blk.new ((w.alloc (.cells #[.pointer (some ⟨p, 0, none⟩)] 52)).alloc (.cells #[.int .i64 limit] 3)) 3 #[.int .i64 0]
    simpa using this
  have h2 := h.touch ht2 (by simp) (fun _ _ => by simp)
  by_cases he : e = 0
  · subst he
    go_enter Try.func50, Try.ntmps50
    go_wp2_with fail
    generalize ((w.alloc (.cells #[.pointer (some ⟨p, 0, none⟩)] 52)).alloc (.cells #[.int .i64 limit] 3)).alloc (.cells #[.int .i64 0] 3) = w2 at *
    refine (value_any p inp l a 99 _ [(w.heap.size + 2)] ((pCount l limit a).map (·.2)) (fun w' => ∀ x, pCount l limit a = .ok x → Blk w' (w.heap.size + 2) 3 #[.int .i64 x.1]) w2 h2 (fun W => by simp [go_sem]) (fun w1 ht1 => ?_)).mono ?_
    · exact count_cl p w.heap.size (w.heap.size + 2) (w.heap.size + 1) inp l a limit w1 (h2.touch ht1 (by simp) (fun _ _ => by simp)) (hN.touch ht1 (by simp)) (hL.touch ht1 (by simp)) (hc.touch ht1 (by simp)) (by omega) (fun hm => by have := hi.out _ hm; omega)
    rintro r w3 ⟨rfl, hr⟩
    cases hu : pCount l limit a with
    | error k =>
      rw [hu] at hr
      obtain ⟨hr1, ht3⟩ := hr
      have e1 : rRead 0 (pCount l limit) (0, a) = (0, (k, a)) := by unfold rRead; simp only [if_true]; rw [hu]
      have HE := Lib.hid e1
      have c1 := (hc.touch ht3 (by simp; omega)).cell 0
      simp at c1
      clear hu e1
      go_wp2_with fail
      go_ret
      rw [HE.out]
      exact ⟨rfl, hr1, ((Touch.refl [p] w).then0 ht2).trans ht3⟩
    | ok x =>
      rw [hu] at hr
      obtain ⟨hr1, ht3, hG⟩ := hr
      have e1 : rRead 0 (pCount l limit) (0, a) = (x.1, (0, x.2)) := by unfold rRead; simp only [if_true]; rw [hu]
      have HE := Lib.hid e1
      have c1 := (hG x rfl).cell 0
      simp at c1
      clear hu e1 hG
      go_wp2_with fail
      go_ret
      rw [HE.out]
      exact ⟨rfl, hr1, ((Touch.refl [p] w).then0 ht2).step ht3 (by simp)⟩
  · have e1 : rRead 0 (pCount l limit) (e, a) = (0, (e, a)) := by unfold rRead; rw [if_neg he]
    have HE := Lib.hid e1
    clear e1
    go_enter Try.func50, Try.ntmps50
    go_wp2_with fail
    generalize ((w.alloc (.cells #[.pointer (some ⟨p, 0, none⟩)] 52)).alloc (.cells #[.int .i64 limit] 3)).alloc (.cells #[.int .i64 0] 3) = w2 at *
    refine (value_err p inp l e a _ w2 h2 he).mono ?_
    rintro r w3 ⟨rfl, ht3⟩
    have c1 := (hc.touch ht3 (by simp)).cell 0
    simp at c1
    go_wp2_with fail
    go_ret
    rw [HE.out]
    exact ⟨rfl, h2.touch ht3 (by simp) (fun _ _ => by simp), ((Touch.refl [p] w).then0 ht2).then0 ht3⟩

def pBool (l : List UInt8) (a : Nat) : Except Int (Bool × Nat) := match l[a]? with
  | none => .error 4
  | some b => if 1 < b.toNat then .error 6 else .ok (b.toNat == 1, a + 1)

set_option maxRecDepth 100000 in
set_option maxHeartbeats 400000 in
theorem bool_cl (p N c : Nat) (inp : Value) (l : List UInt8) (a : Nat) (w : World) (h : Rd w p inp l 0 a) (hN : Blk w N 52 #[.pointer (some ⟨p, 0, none⟩)]) (hc : Blk w c 4 #[.bool false]) (hp : c ≠ p) (hi : c ∉ rb inp) :
    Calls Try.prog 89 #[.pointer (some ⟨N, 0, none⟩), .pointer (some ⟨c, 0, none⟩)] w (ClPost w p inp l [c] ((pBool l a).map (·.2)) fun w' => ∀ x, pBool l a = .ok x → Blk w' c 4 #[.bool x.1]) := by
  have c0 := hN.cell 0
  simp at c0
  by_cases ha : a < l.length
  · have e1 : pBool l a = if 1 < l[a].toNat then .error 6 else .ok (l[a].toNat == 1, a + 1) := by unfold pBool; rw [List.getElem?_eq_getElem ha]
    rw [e1]
    clear e1
    have HB := Lib.hid (show B l[a] = .int .u8 (l[a].toNat : Int) from rfl)
    by_cases hb : 1 < l[a].toNat
    · rw [if_pos hb]
      go_enter Try.func89, Try.ntmps89
      go_wp2_with fail
      refine (next_ok p inp l 0 a w h ha).mono ?_
      rintro r w1 ⟨rfl, hr1, ht⟩
      rw [HB.out]
      have hb' : (1 : Int) < (l[a].toNat : Int) := by omega
      go_wp2_with fail
      exact ⟨rfl, rfl, ⟨_, hr1⟩, ht⟩
    · rw [if_neg hb]
      go_enter Try.func89, Try.ntmps89
      go_wp2_with fail
      refine (next_ok p inp l 0 a w h ha).mono ?_
      rintro r w1 ⟨rfl, hr1, ht⟩
      rw [HB.out]
      have hb' : ¬ (1 : Int) < (l[a].toNat : Int) := by omega
      have hc1 := hc.touch ht (by simpa using hp)
      have c1 := hc1.cell 0
      have c2 := hc1.frozen 0
      simp at c1
      go_wp2_with fail
      go_end0
      refine ⟨rfl, hr1.store hp hi _ _, (ht.mono (by simp)).setCell (.inl (by simp)) _, fun x hx => ?_⟩
      cases hx
      have := hc1.set_ 0 (.bool ((l[a].toNat : Int) == 1))
      have eb : ((l[a].toNat : Int) == 1) = (l[a].toNat == 1) := by rw [Bool.eq_iff_iff, beq_iff_eq, beq_iff_eq]; omega
      rw [← eb]
      simpa using this
  · have e1 : pBool l a = .error 4 := by unfold pBool; rw [List.getElem?_eq_none (by omega)]
    rw [e1]
    clear e1
    go_enter Try.func89, Try.ntmps89
    go_wp2_with fail
    refine (next_bad p inp l 0 a w h ha).mono ?_
    rintro r w1 ⟨rfl, hr1, ht⟩
    unfold bad
    go_wp2_with fail
    exact ⟨rfl, rfl, ⟨_, hr1⟩, ht⟩

set_option maxRecDepth 100000 in
set_option maxHeartbeats 400000 in
theorem rd_bool (p : Nat) (inp : Value) (l : List UInt8) (s : Int × Nat) (w : World) (h : Rd w p inp l s.1 s.2) :
    Calls Try.prog 36 #[.pointer (some ⟨p, 0, none⟩)] w (RdOut w p inp l (.bool (rRead false (pBool l ) s).1) (rRead false (pBool l ) s).2) := by
  obtain ⟨e, a⟩ := s
  simp only at h
  have hmf := make_func
  have hp := h.1.lt
  have hi := Lib.hid h.2.2.2.2.1
  have ht2 : Touch [] w ((w.alloc (.cells #[.pointer (some ⟨p, 0, none⟩)] 52)).alloc (.cells #[.bool false] 4)) := ((Touch.refl [] w).alloc _).alloc _
  have hN : Blk ((w.alloc (.cells #[.pointer (some ⟨p, 0, none⟩)] 52)).alloc (.cells #[.bool false] 4)) w.heap.size 52 #[.pointer (some ⟨p, 0, none⟩)] := (Blk.new _ _ _).alloc _
  have hc : Blk ((w.alloc (.cells #[.pointer (some ⟨p, 0, none⟩)] 52)).alloc (.cells #[.bool false] 4)) (w.heap.size + 1) 4 #[.bool false] := by
    have := Blk.new (w.alloc (.cells #[.pointer (some ⟨p, 0, none⟩)] 52)) 4 #[.bool false]
    simpa using this
  have h2 := h.touch ht2 (by simp) (fun _ _ => by simp)
  by_cases he : e = 0
  · subst he
    go_enter Try.func36, Try.ntmps36
    go_wp2_with fail
    generalize (w.alloc (.cells #[.pointer (some ⟨p, 0, none⟩)] 52)).alloc (.cells #[.bool false] 4) = w2 at *
    refine (value_any p inp l a 89 _ [(w.heap.size + 1)] ((pBool l  a).map (·.2)) (fun w' => ∀ x, pBool l  a = .ok x → Blk w' (w.heap.size + 1) 4 #[.bool x.1]) w2 h2 (fun W => by simp [go_sem]) (fun w1 ht1 => ?_)).mono ?_
    · exact bool_cl p w.heap.size (w.heap.size + 1)  inp l a  w1 (h2.touch ht1 (by simp) (fun _ _ => by simp)) (hN.touch ht1 (by simp)) (hc.touch ht1 (by simp)) (by omega) (fun hm => by have := hi.out _ hm; omega)
    rintro r w3 ⟨rfl, hr⟩
    cases hu : pBool l  a with
    | error k =>
      rw [hu] at hr
      obtain ⟨hr1, ht3⟩ := hr
      have e1 : rRead false (pBool l ) (0, a) = (false, (k, a)) := by unfold rRead; simp only [if_true]; rw [hu]
      have HE := Lib.hid e1
      have c1 := (hc.touch ht3 (by simp; omega)).cell 0
      simp at c1
      clear hu e1
      go_wp2_with fail
      go_ret
      rw [HE.out]
      exact ⟨rfl, hr1, ((Touch.refl [p] w).then0 ht2).trans ht3⟩
    | ok x =>
      rw [hu] at hr
      obtain ⟨hr1, ht3, hG⟩ := hr
      have e1 : rRead false (pBool l ) (0, a) = (x.1, (0, x.2)) := by unfold rRead; simp only [if_true]; rw [hu]
      have HE := Lib.hid e1
      have c1 := (hG x rfl).cell 0
      simp at c1
      clear hu e1 hG
      go_wp2_with fail
      go_ret
      rw [HE.out]
      exact ⟨rfl, hr1, ((Touch.refl [p] w).then0 ht2).step ht3 (by simp)⟩
  · have e1 : rRead false (pBool l ) (e, a) = (false, (e, a)) := by unfold rRead; rw [if_neg he]
    have HE := Lib.hid e1
    clear e1
    go_enter Try.func36, Try.ntmps36
    go_wp2_with fail
    generalize (w.alloc (.cells #[.pointer (some ⟨p, 0, none⟩)] 52)).alloc (.cells #[.bool false] 4) = w2 at *
    refine (value_err p inp l e a _ w2 h2 he).mono ?_
    rintro r w3 ⟨rfl, ht3⟩
    have c1 := (hc.touch ht3 (by simp)).cell 0
    simp at c1
    go_wp2_with fail
    go_ret
    rw [HE.out]
    exact ⟨rfl, h2.touch ht3 (by simp) (fun _ _ => by simp), ((Touch.refl [p] w).then0 ht2).then0 ht3⟩

end Go.Proofs.Ytpbknnkobhjjcaa
