/- The methods of the reader of package wire: strings and lists. -/
import Derived.Test.YtedpaajpfaoffaaGreatDoorRdA
set_option linter.all false
set_option maxHeartbeats 1000000
set_option maxRecDepth 100000
namespace Go.Proofs.YtedpaajpfaoffaaGreatDoor
open Go.RowKit
theorem pPart_len {l : List UInt8} {limit : Int} {a : Nat} {y : List UInt8} {a1 : Nat} (h : pPart l limit a = .ok (y, a1)) : y.length ≤ l.length := by
 unfold pPart at h
 split at h
 ·cases h
 ·split at h
  ·cases h
  ·cases h
   simp
   omega
end Go.Proofs.YtedpaajpfaoffaaGreatDoor
namespace Go.Proofs.YtedpaajpfaoffaaGreatDoor
open Go.RowKit
theorem run_str {w : World} {v : Value} {y : List UInt8} (h : Bytes w v y) : (convert 30 9 v).run Tryz.prog w = .ok (.string ⟨y.toArray⟩) w := by
 obtain ⟨A, cap, rfl, hcap, hmax, _, hc⟩ := h
 cases A with
 | none =>
  have hy : y = [] := by
   cases y with
   | nil => rfl
   | cons b t => obtain ⟨_, _, h, _⟩ := hc (by simp); cases h
  subst hy
  rw [run_convert_bytes_string w 30 9 5 none _ cap Tryz.underlying30 Tryz.underlying5 Tryz.underlying9]
  rfl
 | some ad =>
  refine run_convert_bytes_back w _ _ 5 ad cap y Tryz.underlying30 Tryz.underlying5 Tryz.underlying9 (fun j hj => ?_)
  obtain ⟨b, off, hA, _, hcell⟩ := hc (by omega)
  injection hA with hA
  subst hA
  rw [add_lit]
  exact hcell j _ (by simp [B, hj])
theorem string_cl (p N c L : Nat) (inp : Value) (l : List UInt8) (a : Nat) (limit : Int) (w : World) (h : Rd w p inp l 0 a) (hN : Blk w N 71 #[.pointer (some ⟨p, 0, none⟩)]) (hL : Blk w L 3 #[.int .i64 limit]) (hc : Blk w c 9 #[.string ⟨#[]⟩]) (hp : c ≠ p) (hi : c ∉ rb inp) :
  Calls Tryz.prog 140 #[.pointer (some ⟨N, 0, none⟩), .pointer (some ⟨L, 0, none⟩), .pointer (some ⟨c, 0, none⟩)] w (ClPost w p inp l [c] ((pPart l limit a).map (·.2)) fun w' => ∀ x, pPart l limit a = .ok x → Blk w' c 9 #[.string ⟨x.1.toArray⟩]) := by
 have c0 := hN.cell 0
 have c1 := hL.cell 0
 simp at c0 c1
 cases hg : pPart l limit a with
 | error k =>
  have HG := Lib.hid hg
  clear hg
  go_enter Tryz.func140, Tryz.ntmps140
  go_wp2_with fail
  refine (part_any p inp l 0 a limit w h).mono ?_
  rintro r w1 ⟨ht, hr⟩
  rw [HG.out] at hr
  obtain ⟨rfl, a1, hr1⟩ := hr
  unfold bad
  go_wp2_with fail
  exact ⟨rfl, rfl, ⟨a1, hr1⟩, ht⟩
 | ok x =>
  obtain ⟨y, a1⟩ := x
  have HG := Lib.hid hg
  clear hg
  go_enter Tryz.func140, Tryz.ntmps140
  go_wp2_with fail
  refine (part_any p inp l 0 a limit w h).mono ?_
  rintro r w1 ⟨ht, hr⟩
  rw [HG.out] at hr
  obtain ⟨v1, rfl, hv1, hvb, hr1⟩ := hr
  have hs := run_str hv1
  have hc1 := hc.touch ht (by simpa using hp)
  have k1 := hc1.cell 0
  have k2 := hc1.frozen 0
  simp at k1
  clear hvb
  go_wp2_with fail
  go_end0
  refine ⟨rfl, hr1.store hp hi _ _, (ht.mono (by simp)).setCell (.inl (by simp)) _, fun x hx => ?_⟩
  cases hx
  have := hc1.set_ 0 (.string ⟨y.toArray⟩)
  simpa using this
theorem rd_string (p : Nat) (inp : Value) (l : List UInt8) (s : Int × Nat) (limit : Int) (w : World) (h : Rd w p inp l s.1 s.2) :
  Calls Tryz.prog 99 #[.pointer (some ⟨p, 0, none⟩), .int .i64 limit] w (RdOut w p inp l (.string ⟨(rRead [] (pPart l limit) s).1.toArray⟩) (rRead [] (pPart l limit) s).2) := by
 obtain ⟨e, a⟩ := s
 simp only at h
 have hmf := make_func
 have hp := h.1.lt
 have hi := Lib.hid h.2.2.2.2.1
 have ht2 : Touch [] w (((w.alloc (.cells #[.pointer (some ⟨p, 0, none⟩)] 71)).alloc (.cells #[.int .i64 limit] 3)).alloc (.cells #[.string ⟨#[]⟩] 9)) := (((Touch.refl [] w).alloc _).alloc _).alloc _
 have hN : Blk (((w.alloc (.cells #[.pointer (some ⟨p, 0, none⟩)] 71)).alloc (.cells #[.int .i64 limit] 3)).alloc (.cells #[.string ⟨#[]⟩] 9)) w.heap.size 71 #[.pointer (some ⟨p, 0, none⟩)] := ((Blk.new _ _ _).alloc _).alloc _
 have hL : Blk (((w.alloc (.cells #[.pointer (some ⟨p, 0, none⟩)] 71)).alloc (.cells #[.int .i64 limit] 3)).alloc (.cells #[.string ⟨#[]⟩] 9)) (w.heap.size + 1) 3 #[.int .i64 limit] := by
  have := (Blk.new (w.alloc (.cells #[.pointer (some ⟨p, 0, none⟩)] 71)) 3 #[.int .i64 limit]).alloc (.cells #[.string ⟨#[]⟩] 9)
  simpa using this
 have hc : Blk (((w.alloc (.cells #[.pointer (some ⟨p, 0, none⟩)] 71)).alloc (.cells #[.int .i64 limit] 3)).alloc (.cells #[.string ⟨#[]⟩] 9)) (w.heap.size + 2) 9 #[.string ⟨#[]⟩] := by
  have := Blk.new ((w.alloc (.cells #[.pointer (some ⟨p, 0, none⟩)] 71)).alloc (.cells #[.int .i64 limit] 3)) 9 #[.string ⟨#[]⟩]
  simpa using this
 have h2 := h.touch ht2 (by simp) (fun _ _ => by simp)
 by_cases he : e = 0
 ·subst he
  go_enter Tryz.func99, Tryz.ntmps99
  go_wp2_with fail
  generalize ((w.alloc (.cells #[.pointer (some ⟨p, 0, none⟩)] 71)).alloc (.cells #[.int .i64 limit] 3)).alloc (.cells #[.string ⟨#[]⟩] 9) = w2 at *
  refine (value_any p inp l a 140 _ [(w.heap.size + 2)] ((pPart l limit a).map (·.2)) (fun w' => ∀ x, pPart l limit a = .ok x → Blk w' (w.heap.size + 2) 9 #[.string ⟨x.1.toArray⟩]) w2 h2 (fun W => by simp [go_sem]) (fun w1 ht1 => ?_)).mono ?_
  ·exact string_cl p w.heap.size (w.heap.size + 2) (w.heap.size + 1) inp l a limit w1 (h2.touch ht1 (by simp) (fun _ _ => by simp)) (hN.touch ht1 (by simp)) (hL.touch ht1 (by simp)) (hc.touch ht1 (by simp)) (by omega) (fun hm => by have := hi.out _ hm; omega)
  rintro r w3 ⟨rfl, hr⟩
  cases hu : pPart l limit a with
  | error k =>
   rw [hu] at hr
   obtain ⟨hr1, ht3⟩ := hr
   have e1 : rRead [] (pPart l limit) (0, a) = ([], (k, a)) := by unfold rRead; simp only [if_true]; rw [hu]
   have HE := Lib.hid e1
   have c1 := (hc.touch ht3 (by simp; omega)).cell 0
   simp at c1
   clear hu e1
   go_wp2_with fail
   go_ret
   rw [HE.out]
   exact ⟨rfl, hr1, ((Touch.refl [p] w).then0 ht2).trans ht3⟩
  | ok x =>
   rw [hu] at hr
   obtain ⟨hr1, ht3, hG⟩ := hr
   have e1 : rRead [] (pPart l limit) (0, a) = (x.1, (0, x.2)) := by unfold rRead; simp only [if_true]; rw [hu]
   have HE := Lib.hid e1
   have c1 := (hG x rfl).cell 0
   simp at c1
   clear hu e1 hG
   go_wp2_with fail
   go_ret
   rw [HE.out]
   exact ⟨rfl, hr1, ((Touch.refl [p] w).then0 ht2).step ht3 (by simp)⟩
 ·have e1 : rRead [] (pPart l limit) (e, a) = ([], (e, a)) := by unfold rRead; rw [if_neg he]
  have HE := Lib.hid e1
  clear e1
  go_enter Tryz.func99, Tryz.ntmps99
  go_wp2_with fail
  generalize ((w.alloc (.cells #[.pointer (some ⟨p, 0, none⟩)] 71)).alloc (.cells #[.int .i64 limit] 3)).alloc (.cells #[.string ⟨#[]⟩] 9) = w2 at *
  refine (value_err p inp l e a _ w2 h2 he).mono ?_
  rintro r w3 ⟨rfl, ht3⟩
  have c1 := (hc.touch ht3 (by simp)).cell 0
  simp at c1
  go_wp2_with fail
  go_ret
  rw [HE.out]
  exact ⟨rfl, h2.touch ht3 (by simp) (fun _ _ => by simp), ((Touch.refl [p] w).then0 ht2).then0 ht3⟩
end Go.Proofs.YtedpaajpfaoffaaGreatDoor
namespace Go.Proofs.YtedpaajpfaoffaaGreatDoor
open Go.RowKit
theorem elem_int : Elem Tryz.prog 51 3 1 8 := Elem.mk (z := .int .i64 0) Tryz.underlying51 (by kernel_rfl) rfl (by decide)
def RowI (w : World) (v : Value) (xs : List Int) : Prop := Own w 3 1 v xs.length (xs.map I)
theorem RowI.nil (w : World) : RowI w (.slice none 0 0) [] := Own.nil w _ _
theorem RowI.snoc {w : World} {v : Value} {xs : List Int} {y : Int} (h : Own w 3 1 v (xs.length + 1) (xs.map I ++ [.int .i64 y])) : RowI w v (xs ++ [y]) := by
 unfold RowI
 simpa [I] using h
def pList (l : List UInt8) : Nat → Nat → Except Int (List Int × Nat)
 | 0, a => .ok ([], a)
 | n + 1, a => match pInt l a with
  | .error k => .error k
  | .ok x => match pList l n x.2 with
   | .error k => .error k
   | .ok ys => .ok (x.1 :: ys.1, ys.2)
def cont (xs : List Int) : Except Int (List Int × Nat) → Except Int (List Int × Nat)
 | .error k => .error k
 | .ok ys => .ok (xs ++ ys.1, ys.2)
def pInts (l : List UInt8) (limit : Int) (a : Nat) : Except Int (List Int × Nat) := match pCount l limit a with
 | .error k => .error k
 | .ok x => pList l x.1.toNat x.2
theorem cont_nil (r : Except Int (List Int × Nat)) : cont [] r = r := by cases r <;> rfl
theorem cont_bad (l : List UInt8) (n a : Nat) (xs : List Int) (k : Int) (h : pInt l a = .error k) : cont xs (pList l (n + 1) a) = .error k := by
 unfold pList; rw [h]; rfl
theorem cont_step (l : List UInt8) (n a : Nat) (xs : List Int) (x : Int × Nat) (h : pInt l a = .ok x) : cont xs (pList l (n + 1) a) = cont (xs ++ [x.1]) (pList l n x.2) := by
 have e : pList l (n + 1) a = match pInt l a with
  | .error k => .error k
  | .ok x => match pList l n x.2 with
   | .error k => .error k
   | .ok ys => .ok (x.1 :: ys.1, ys.2) := rfl
 rw [e, h]
 simp only
 cases pList l n x.2 <;> simp [cont]
theorem pInt_ok {l : List UInt8} {a : Nat} {x : Int × Nat} (h : pInt l a = .ok x) : a < x.2 ∧ x.2 ≤ l.length ∧ Fits x.1 := by
 unfold pInt at h
 cases hg : pGroup l 10 0 0 a with
 | error k => rw [hg] at h; cases h
 | ok y =>
  rw [hg] at h
  cases h
  have := pGroup10 hg
  refine ⟨this.2.1, this.2.2, ?_⟩
  unfold Fits unfold'
  simp only
  split <;> omega
def IntsRdRel (w : World) (p : Nat) (inp : Value) (l : List UInt8) (n : Nat) (res : Except Int (List Int × Nat)) (tv ti : Value) (wr : World) : Prop :=
 ∃ (k a : Nat) (xs : List Int), k ≤ n ∧ xs.length = k ∧ k ≤ a ∧ ti = .int .i64 k ∧ RowI wr tv xs ∧ (∀ g ∈ blk tv, w.heap.size ≤ g) ∧ Rd wr p inp l 0 a ∧ Touch [p] w wr ∧ res = cont xs (pList l (n - k) a)
theorem ints_cl (p N c L : Nat) (inp : Value) (l : List UInt8) (a : Nat) (limit : Int) (w : World) (h : Rd w p inp l 0 a) (hN : Blk w N 71 #[.pointer (some ⟨p, 0, none⟩)]) (hL : Blk w L 3 #[.int .i64 limit]) (hc : Blk w c 51 #[.slice none 0 0]) (hp : c ≠ p) (hi : c ∉ rb inp) (hNp : N ≠ p) :
  Calls Tryz.prog 96 #[.pointer (some ⟨N, 0, none⟩), .pointer (some ⟨L, 0, none⟩), .pointer (some ⟨c, 0, none⟩)] w (ClPost w p inp l [c] ((pInts l limit a).map (·.2)) fun w' => ∀ x, pInts l limit a = .ok x → ∃ v, Blk w' c 51 #[v] ∧ RowI w' v x.1 ∧ ∀ g ∈ blk v, w.heap.size ≤ g) := by
 have c0 := hN.cell 0
 have c1 := hL.cell 0
 simp at c0 c1
 cases hg : pCount l limit a with
 | error k =>
  have e1 : pInts l limit a = .error k := by unfold pInts; rw [hg]
  rw [e1]
  have HG := Lib.hid hg
  clear hg e1
  go_enter Tryz.func96, Tryz.ntmps96
  go_wp2_with fail
  refine (count_any p inp l 0 a limit w h).mono ?_
  rintro r w1 hr
  obtain ⟨ht, rfl, a1, hr1⟩ := hr.err HG.out
  unfold bad
  go_wp2_with fail
  exact ⟨rfl, rfl, ⟨a1, hr1⟩, ht⟩
 | ok x =>
  obtain ⟨n, a1⟩ := x
  have hn := pCount_ok hg
  simp only at hn
  obtain ⟨hn0, _, hn1, _, hal⟩ := hn
  obtain ⟨m, rfl⟩ := Int.eq_ofNat_of_zero_le hn0
  have e1 : pInts l limit a = pList l m a1 := by unfold pInts; rw [hg]; simp
  rw [e1]
  have hst := fun (w1 : World) (q1 : Rd w1 p inp l 0 a1) (q2 : Touch [p] w w1) => (⟨0, a1, [], by omega, rfl, by omega, rfl, RowI.nil _, (fun g hg => by cases hg), q1, q2, by rw [cont_nil]; rfl⟩ : IntsRdRel w p inp l m (pList l m a1) (.slice none 0 0) (.int .i64 0) w1)
  have HST := Lib.hid hst
  clear hst
  generalize pList l m a1 = res at *
  have hlen := h.2.2.2.2.2
  have HG := Lib.hid hg
  clear hg e1
  go_enter Tryz.func96, Tryz.ntmps96
  go_wp2_with fail
  refine (count_any p inp l 0 a limit w h).mono ?_
  rintro r w1 hr
  obtain ⟨ht1, rfl, hr1⟩ := hr.val HG.out
  simp only [ival] at hr1 ⊢
  clear hr
  go_wp2_with fail
  go_loopw [3, 7] (fun tv ti wr => IntsRdRel w p inp l m res tv ti wr) (fun _ t _ => m - (intOf t).toNat)
  case atStart => exact HST.out w1 hr1 ht1
  case round =>
   clear hr1 ht1
   obtain ⟨k, a2, xs, hk, hxl, hka, rfl, hrow, hnew, hr2, ht2, hres⟩ := hrel
   have HRes := Lib.hid hres
   have HNew := Lib.hid hnew
   have HXL := Lib.hid hxl
   clear hres hnew hxl
   have hal2 := hr2.2.2.2.1
   by_cases hlt : k < m
   ·have k0 := (hN.touch ht2 (by simpa using hNp)).cell 0
    simp at k0
    cases hpi : pInt l a2 with
    | error e =>
     have HPI := Lib.hid hpi
     clear hpi
     go_wp2_with fail
     refine (signed_rd p inp l 0 a2 wr hr2).mono ?_
     rintro r w3 hr
     obtain ⟨ht3, rfl, a3, hr3⟩ := hr.err HPI.out
     unfold bad
     go_wp2_with fail
     have e2 : res = .error e := by rw [HRes.out, show m - k = (m - k - 1) + 1 by omega]; exact cont_bad _ _ _ _ _ HPI.out
     rw [e2]
     exact ⟨rfl, rfl, ⟨a3, hr3⟩, ht2.trans ht3⟩
    | ok y =>
     have hy := pInt_ok hpi
     have HPI := Lib.hid hpi
     clear hpi
     go_wp2_with fail
     refine (signed_rd p inp l 0 a2 wr hr2).mono ?_
     rintro r w3 hr
     obtain ⟨ht3, rfl, hr3⟩ := hr.val HPI.out
     simp only [ival] at hr3 ⊢
     clear hr
     have hrow3 : RowI w3 _ xs := Own.touch hrow ht3 (fun b hb hm => by simp at hm; subst hm; have := HNew.out _ hb; have := h.1.lt; omega)
     have hxs : xs.length ≤ 1099511627776 := by rw [HXL.out]; omega
     go_wp2_with (at_builtin; go_must (refine app_new elem_int hrow3 [Value.int .i64 y.1] 1 1 (by omega) (by unfold maxLen; omega) ?_); intro v4 w4 ho4 ht4 hf4)
     go_roundw
     case rel =>
      refine ⟨k + 1, y.2, xs ++ [y.1], by omega, by simp [HXL.out], by omega, by go_num, RowI.snoc ho4, ?_, ?_, ?_, ?_⟩
      ·intro g hg
       rcases hf4 g hg with h5 | h5
       ·exact HNew.out g h5
       ·have := ht2.size; have := ht3.size; omega
      ·have hpl := h.1.lt
       refine hr3.touch ht4 (fun hm => ?_) (fun b hb hm => ?_)
       ·have := HNew.out _ hm; omega
       ·have h6 := HNew.out _ hm
        have h7 := h.2.2.2.2.1 b hb
        omega
      ·exact (ht2.trans ht3).step ht4 (fun m hm => .inr (HNew.out m hm))
      ·rw [HRes.out, show m - k = (m - (k + 1)) + 1 by omega]; exact cont_step _ _ _ _ _ HPI.out
     case measure => simp [intOf]; omega
   ·have e0 : k = m := by omega
    subst e0
    have hc2 := hc.touch ht2 (by simpa using hp)
    have k1 := hc2.cell 0
    have k2 := hc2.frozen 0
    simp at k1
    obtain ⟨A3, cap3, rfl⟩ := Own.form hrow
    go_wp2_with fail
    go_end0
    have e2 : res = .ok (xs, a2) := by rw [HRes.out, Nat.sub_self]; simp [pList, cont]
    rw [e2]
    have hcl := hc.lt
    refine ⟨rfl, hr2.store hp hi _ _, (ht2.mono (by simp)).setCell (.inl (by simp)) _, fun x hx => ?_⟩
    cases hx
    refine ⟨_, by simpa using hc2.set_ 0 (Value.slice A3 xs.length cap3), ?_, HNew.out⟩
    exact Own.touch hrow ((Touch.refl [c] wr).setCell (.inl (by simp)) _) (fun b hb hm => by simp at hm; subst hm; have := HNew.out _ hb; omega)
def RdInts (w : World) (p : Nat) (inp : Value) (l : List UInt8) (x : List Int) (s' : Int × Nat) (r : Ending) (w' : World) : Prop :=
 ∃ v, r = .returned v ∧ RowI w' v x ∧ (∀ g ∈ blk v, w.heap.size ≤ g) ∧ Rd w' p inp l s'.1 s'.2 ∧ Touch [p] w w'
theorem rd_ints (p : Nat) (inp : Value) (l : List UInt8) (s : Int × Nat) (limit : Int) (w : World) (h : Rd w p inp l s.1 s.2) :
  Calls Tryz.prog 46 #[.pointer (some ⟨p, 0, none⟩), .int .i64 limit] w (RdInts w p inp l (rRead [] (pInts l limit) s).1 (rRead [] (pInts l limit) s).2) := by
 obtain ⟨e, a⟩ := s
 simp only at h
 have hmf := make_func
 have hp := h.1.lt
 have hi := Lib.hid h.2.2.2.2.1
 have ht2 : Touch [] w (((w.alloc (.cells #[.pointer (some ⟨p, 0, none⟩)] 71)).alloc (.cells #[.int .i64 limit] 3)).alloc (.cells #[.slice none 0 0] 51)) := (((Touch.refl [] w).alloc _).alloc _).alloc _
 have hN : Blk (((w.alloc (.cells #[.pointer (some ⟨p, 0, none⟩)] 71)).alloc (.cells #[.int .i64 limit] 3)).alloc (.cells #[.slice none 0 0] 51)) w.heap.size 71 #[.pointer (some ⟨p, 0, none⟩)] := ((Blk.new _ _ _).alloc _).alloc _
 have hL : Blk (((w.alloc (.cells #[.pointer (some ⟨p, 0, none⟩)] 71)).alloc (.cells #[.int .i64 limit] 3)).alloc (.cells #[.slice none 0 0] 51)) (w.heap.size + 1) 3 #[.int .i64 limit] := by
  have := (Blk.new (w.alloc (.cells #[.pointer (some ⟨p, 0, none⟩)] 71)) 3 #[.int .i64 limit]).alloc (.cells #[.slice none 0 0] 51)
  simpa using this
 have hc : Blk (((w.alloc (.cells #[.pointer (some ⟨p, 0, none⟩)] 71)).alloc (.cells #[.int .i64 limit] 3)).alloc (.cells #[.slice none 0 0] 51)) (w.heap.size + 2) 51 #[.slice none 0 0] := by
  have := Blk.new ((w.alloc (.cells #[.pointer (some ⟨p, 0, none⟩)] 71)).alloc (.cells #[.int .i64 limit] 3)) 51 #[.slice none 0 0]
  simpa using this
 have h2 := h.touch ht2 (by simp) (fun _ _ => by simp)
 by_cases he : e = 0
 ·subst he
  go_enter Tryz.func46, Tryz.ntmps46
  go_wp2_with fail
  generalize ((w.alloc (.cells #[.pointer (some ⟨p, 0, none⟩)] 71)).alloc (.cells #[.int .i64 limit] 3)).alloc (.cells #[.slice none 0 0] 51) = w2 at *
  refine (value_any p inp l a 96 _ [(w.heap.size + 2)] ((pInts l limit a).map (·.2)) (fun w' => ∀ x, pInts l limit a = .ok x → ∃ v, Blk w' (w.heap.size + 2) 51 #[v] ∧ RowI w' v x.1 ∧ ∀ g ∈ blk v, w.heap.size ≤ g) w2 h2 (fun W => by simp [go_sem]) (fun w1 ht1 => ?_)).mono ?_
  ·refine (ints_cl p w.heap.size (w.heap.size + 2) (w.heap.size + 1) inp l a limit w1 (h2.touch ht1 (by simp) (fun _ _ => by simp)) (hN.touch ht1 (by simp)) (hL.touch ht1 (by simp)) (hc.touch ht1 (by simp)) (by omega) (fun hm => by have := hi.out _ hm; omega) (by omega)).mono ?_
   intro r w' hr
   unfold ClPost at hr ⊢
   cases hpp : pInts l limit a with
   | error k => rw [hpp] at hr; exact hr
   | ok x =>
    rw [hpp] at hr
    refine ⟨hr.1, hr.2.1, hr.2.2.1, fun x' hx' => ?_⟩
    obtain ⟨v, q1, q2, q3⟩ := hr.2.2.2 x' hx'
    exact ⟨v, q1, q2, fun g hg => Nat.le_trans (Nat.le_trans ht2.size ht1.size) (q3 g hg)⟩
  rintro r w3 ⟨rfl, hr⟩
  cases hu : pInts l limit a with
  | error k =>
   rw [hu] at hr
   obtain ⟨hr1, ht3⟩ := hr
   have e1 : rRead [] (pInts l limit) (0, a) = ([], (k, a)) := by unfold rRead; simp only [if_true]; rw [hu]
   have HE := Lib.hid e1
   have c1 := (hc.touch ht3 (by simp; omega)).cell 0
   simp at c1
   clear hu e1
   go_wp2_with fail
   go_ret
   rw [HE.out]
   exact ⟨_, rfl, RowI.nil _, (fun g hg => by cases hg), hr1, ((Touch.refl [p] w).then0 ht2).trans ht3⟩
  | ok x =>
   rw [hu] at hr
   obtain ⟨hr1, ht3, hG⟩ := hr
   have e1 : rRead [] (pInts l limit) (0, a) = (x.1, (0, x.2)) := by unfold rRead; simp only [if_true]; rw [hu]
   have HE := Lib.hid e1
   obtain ⟨v, q1, q2, q3⟩ := hG x rfl
   have c1 := q1.cell 0
   simp at c1
   have Q3 := Lib.hid q3
   obtain ⟨A3, cap3, rfl⟩ := Own.form q2
   clear hu e1 hG q3
   go_wp2_with fail
   go_ret
   rw [HE.out]
   exact ⟨_, rfl, q2, Q3.out, hr1, ((Touch.refl [p] w).then0 ht2).step ht3 (by simp)⟩
 ·have e1 : rRead [] (pInts l limit) (e, a) = ([], (e, a)) := by unfold rRead; rw [if_neg he]
  have HE := Lib.hid e1
  clear e1
  go_enter Tryz.func46, Tryz.ntmps46
  go_wp2_with fail
  generalize ((w.alloc (.cells #[.pointer (some ⟨p, 0, none⟩)] 71)).alloc (.cells #[.int .i64 limit] 3)).alloc (.cells #[.slice none 0 0] 51) = w2 at *
  refine (value_err p inp l e a _ w2 h2 he).mono ?_
  rintro r w3 ⟨rfl, ht3⟩
  have c1 := (hc.touch ht3 (by simp)).cell 0
  simp at c1
  go_wp2_with fail
  go_ret
  rw [HE.out]
  exact ⟨_, rfl, RowI.nil _, (fun g hg => by cases hg), h2.touch ht3 (by simp) (fun _ _ => by simp), ((Touch.refl [p] w).then0 ht2).then0 ht3⟩
end Go.Proofs.YtedpaajpfaoffaaGreatDoor
namespace Go.Proofs.YtedpaajpfaoffaaGreatDoor
open Go.RowKit
theorem rd_err (p : Nat) (inp : Value) (l : List UInt8) (e : Int) (a : Nat) (w : World) (h : Rd w p inp l e a) :
  Calls Tryz.prog 43 #[.pointer (some ⟨p, 0, none⟩)] w fun r w' => r = .returned (.int .i64 e) ∧ w = w' := by
 have h3 := h.1.cell 0
 simp at h3
 go_enter Tryz.func43, Tryz.ntmps43
 go_wp2_with fail
 refine (h.valid).mono ?_
 rintro r w' ⟨rfl, rfl⟩
 go_wp2
 go_ret
 exact ⟨rfl, rfl⟩
def rEnd (l : List UInt8) (e : Int) (a : Nat) : Int := if e = 0 then (if a < l.length then 5 else 0) else e
theorem rd_end (p : Nat) (inp : Value) (l : List UInt8) (e : Int) (a : Nat) (w : World) (h : Rd w p inp l e a) :
  Calls Tryz.prog 49 #[.pointer (some ⟨p, 0, none⟩)] w fun r w' => r = .returned (.int .i64 (rEnd l e a)) ∧ ∃ n, w' = w.drewN n := by
 have h0 := h.1.cell 0
 have h2 := h.1.cell 2
 have h3 := h.1.cell 3
 simp at h0 h2 h3
 obtain ⟨A, cap, rfl, hcap, hmax, _, hcells⟩ := id h.2.1
 clear hcells
 unfold rEnd
 by_cases he : e = 0
 ·subst he
  rw [if_pos rfl]
  by_cases ha : a < l.length
  ·rw [if_pos ha]
   have ha' : decide ((a : Int) < (l.length : Int)) = true := by simpa using ha
   go_enter Tryz.func49, Tryz.ntmps49
   go_wp2_with fail
   refine (h.valid).mono ?_
   rintro r w' ⟨rfl, rfl⟩
   go_wp2_with fail
   go_quiet (fail)
   go_wp2
   go_ret
   exact ⟨rfl, _, rfl⟩
  ·rw [if_neg ha]
   have ha' : decide ((a : Int) < (l.length : Int)) = false := by simpa using ha
   go_enter Tryz.func49, Tryz.ntmps49
   go_wp2_with fail
   refine (h.valid).mono ?_
   rintro r w' ⟨rfl, rfl⟩
   go_wp2_with fail
   go_quiet (fail)
   go_wp2
   go_ret
   exact ⟨rfl, _, rfl⟩
 ·rw [if_neg he]
  have he' : (e == 0) = false := by simpa using he
  go_enter Tryz.func49, Tryz.ntmps49
  go_wp2_with fail
  refine (h.valid).mono ?_
  rintro r w' ⟨rfl, rfl⟩
  go_wp2_with fail
  go_quiet (fail)
  go_wp2
  go_ret
  exact ⟨rfl, _, rfl⟩
theorem Rd.new {w : World} {inp : Value} {l : List UInt8} (h : Bytes w inp l) (hl : l.length ≤ 1099511627776) :
  Rd (w.alloc (.cells #[.int .i64 0, .bool true, inp, .int .i64 0] 140)) w.heap.size inp l 0 0 :=
 ⟨Blk.new _ _ _, Reads.touch0 h ((Touch.refl _ _).alloc _), fun hm => by have := Reads.lt h _ hm; omega, Nat.zero_le _, fun b hm => by have := Reads.lt h b hm; simp; omega, hl⟩
theorem read_any (v : Value) (l : List UInt8) (w : World) (hv : Bytes w v l) (hl : l.length ≤ 1099511627776) :
  Calls Tryz.prog 40 #[v] w fun r w' => ∃ p inp, r = .returned (.pointer (some ⟨p, 0, none⟩)) ∧ w.heap.size ≤ p ∧ (∀ g ∈ rb inp, w.heap.size ≤ g) ∧ Rd w' p inp l 0 0 ∧ Touch [] w w' := by
 go_enter Tryz.func40, Tryz.ntmps40
 go_wp2_with (at_builtin; go_must (refine app_reads elem_u8 (Own.nil w _ 1) hv (B_ones l) (by simp; omega) (by unfold maxLen; simp; omega) ?_); intro v2 w2 ho2 ht2 hf2; obtain ⟨A2, cap2, rfl⟩ := Own.form ho2)
 go_ret
 simp only [Nat.zero_add, List.nil_append] at ho2 hf2
 have hb : Bytes w2 (.slice A2 l.length cap2) l := Row.bytes ho2
 refine ⟨w2.heap.size, .slice A2 l.length cap2, rfl, ht2.size, (fun g hg => hf2.none_ g (rb_sub _ g hg)), Rd.new hb hl, ?_⟩
 exact (show Touch [] w w2 from ht2).alloc _
def RdZero (w : World) (p : Nat) : Prop := Blk w p 140 #[.int .i64 0, .bool false, .slice none 0 0, .int .i64 0]
def NoRd (w : World) (A : Option Addr) : Prop := A = none ∨ ∃ p, A = some ⟨p, 0, none⟩ ∧ RdZero w p
theorem NoRd.touch {w w' : World} {A : Option Addr} (h : NoRd w A) (ht : Touch [] w w') : NoRd w' A := by
 rcases h with h | ⟨p, h, hz⟩
 ·exact .inl h
 ·exact .inr ⟨p, h, Blk.touch hz ht (by simp)⟩
theorem NoRd.value {w : World} {A : Option Addr} (h : NoRd w A) (f : Value) : Calls Tryz.prog 92 #[.pointer A, f] w fun r w' => r = .returned (.tuple #[]) ∧ Touch [] w w' := by
 rcases h with rfl | ⟨p, rfl, hz⟩
 ·exact value_nil f w
 ·exact value_zero p _ _ f w hz (by simp)
theorem NoRd.valid {w : World} {A : Option Addr} (h : NoRd w A) : Calls Tryz.prog 95 #[.pointer A] w fun r w' => r = .returned (.bool false) ∧ w = w' := by
 rcases h with rfl | ⟨p, rfl, hz⟩
 ·exact valid_nil w
 ·exact valid_any p _ _ false w hz (by simp)
end Go.Proofs.YtedpaajpfaoffaaGreatDoor
