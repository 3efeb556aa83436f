/- The methods of the reader of package wire: strings and lists, at its methods. -/
import Derived.Test.YtpbknnkobhjjcaaReader5
namespace Go.Proofs.Ytpbknnkobhjjcaa
open Go.RowKit

/-- string(v) of bytes. -/
theorem run_str {w : World} {v : Value} {y : List UInt8} (h : Bytes w v y) : (convert 28 9 v).run Try.prog w = .ok (.string ⟨y.toArray⟩) w := by
  obtain ⟨A, cap, rfl, hcap, hmax, _, hc⟩ := h
  cases A with
  | none =>
    have hy : y = [] := by
      cases y with
      | nil => rfl
      | cons b t => obtain ⟨_, _, h, _⟩ := hc (by simp); cases h
    subst hy
    rw [run_convert_bytes_string w 28 9 5 none _ cap Try.underlying28 Try.underlying5 Try.underlying9]
    rfl
  | some ad =>
    refine run_convert_bytes_back w _ _ 5 ad cap y Try.underlying28 Try.underlying5 Try.underlying9 (fun j hj => ?_)
    obtain ⟨b, off, hA, _, hcell⟩ := hc (by omega)
    injection hA with hA
    subst hA
    rw [add_lit]
    exact hcell j _ (by simp [B, hj])

/-- What a method that reads bytes leaves. -/
def RdBytes (w : World) (p : Nat) (inp : Value) (l : List UInt8) (x : List UInt8) (s' : Int × Nat) (r : Ending) (w' : World) : Prop :=
  ∃ v, r = .returned v ∧ Row w' v x ∧ (∀ g ∈ blk v, w.heap.size ≤ g) ∧ Rd w' p inp l s'.1 s'.2 ∧ Touch [p] w w'

set_option maxRecDepth 100000 in
set_option maxHeartbeats 400000 in
theorem rd_bytes (p : Nat) (inp : Value) (l : List UInt8) (s : Int × Nat) (limit : Int) (w : World) (h : Rd w p inp l s.1 s.2) :
    Calls Try.prog 37 #[.pointer (some ⟨p, 0, none⟩), .int .i64 limit] w (RdBytes w p inp l (rRead [] (pPart l limit) s).1 (rRead [] (pPart l limit) s).2) := by
  obtain ⟨e, a⟩ := s
  simp only at h
  have hmf := make_func
  have hp := h.1.lt
  have hi := Lib.hid h.2.2.2.2.1
  have ht2 : Touch [] w (((w.alloc (.cells #[.pointer (some ⟨p, 0, none⟩)] 52)).alloc (.cells #[.int .i64 limit] 3)).alloc (.cells #[.slice none 0 0] 28)) := (((Touch.refl [] w).alloc _).alloc _).alloc _
  have hN : Blk (((w.alloc (.cells #[.pointer (some ⟨p, 0, none⟩)] 52)).alloc (.cells #[.int .i64 limit] 3)).alloc (.cells #[.slice none 0 0] 28)) w.heap.size 52 #[.pointer (some ⟨p, 0, none⟩)] := ((Blk.new _ _ _).alloc _).alloc _
  have hL : Blk (((w.alloc (.cells #[.pointer (some ⟨p, 0, none⟩)] 52)).alloc (.cells #[.int .i64 limit] 3)).alloc (.cells #[.slice none 0 0] 28)) (w.heap.size + 1) 3 #[.int .i64 limit] := by
    have := (Blk.new (w.alloc (.cells #[.pointer (some ⟨p, 0, none⟩)] 52)) 3 #[.int .i64 limit]).alloc (.cells #[.slice none 0 0] 28)
    simpa using this
  have hc : Blk (((w.alloc (.cells #[.pointer (some ⟨p, 0, none⟩)] 52)).alloc (.cells #[.int .i64 limit] 3)).alloc (.cells #[.slice none 0 0] 28)) (w.heap.size + 2) 28 #[.slice none 0 0] := by
    have := Blk.new ((w.alloc (.cells #[.pointer (some ⟨p, 0, none⟩)] 52)).alloc (.cells #[.int .i64 limit] 3)) 28 #[.slice none 0 0]
    simpa using this
  have h2 := h.touch ht2 (by simp) (fun _ _ => by simp)
  by_cases he : e = 0
  · subst he
    go_enter Try.func37, Try.ntmps37
    go_wp2_with fail
    generalize ((w.alloc (.cells #[.pointer (some ⟨p, 0, none⟩)] 52)).alloc (.cells #[.int .i64 limit] 3)).alloc (.cells #[.slice none 0 0] 28) = w2 at *
    refine (value_any p inp l a 91 _ [(w.heap.size + 2)] ((pPart l limit a).map (·.2)) (fun w' => ∀ x, pPart l limit a = .ok x → ∃ v, Blk w' (w.heap.size + 2) 28 #[v] ∧ Row w' v x.1 ∧ ∀ g ∈ blk v, w.heap.size ≤ g) w2 h2 (fun W => by simp [go_sem]) (fun w1 ht1 => ?_)).mono ?_
    · refine (bytes_cl p w.heap.size (w.heap.size + 2) (w.heap.size + 1) inp l a limit w1 (h2.touch ht1 (by simp) (fun _ _ => by simp)) (hN.touch ht1 (by simp)) (hL.touch ht1 (by simp)) (hc.touch ht1 (by simp)) (by omega) (fun hm => by have := hi.out _ hm; omega) (by omega) (by omega)).mono ?_
      intro r w' hr
      unfold ClPost at hr ⊢
      cases hpp : pPart l limit a with
      | error k => rw [hpp] at hr; exact hr
      | ok x =>
        rw [hpp] at hr
        refine ⟨hr.1, hr.2.1, hr.2.2.1, fun x' hx' => ?_⟩
        obtain ⟨v, q1, q2, q3⟩ := hr.2.2.2 x' hx'
        exact ⟨v, q1, q2, fun g hg => Nat.le_trans (Nat.le_trans ht2.size ht1.size) (q3 g hg)⟩
    rintro r w3 ⟨rfl, hr⟩
    cases hu : pPart l limit a with
    | error k =>
      rw [hu] at hr
      obtain ⟨hr1, ht3⟩ := hr
      have e1 : rRead [] (pPart l limit) (0, a) = ([], (k, a)) := by unfold rRead; simp only [if_true]; rw [hu]
      have HE := Lib.hid e1
      have c1 := (hc.touch ht3 (by simp; omega)).cell 0
      simp at c1
      clear hu e1
      go_wp2_with fail
      go_ret
      rw [HE.out]
      exact ⟨_, rfl, Row.nil _, (fun g hg => by cases hg), hr1, ((Touch.refl [p] w).then0 ht2).trans ht3⟩
    | ok x =>
      rw [hu] at hr
      obtain ⟨hr1, ht3, hG⟩ := hr
      have e1 : rRead [] (pPart l limit) (0, a) = (x.1, (0, x.2)) := by unfold rRead; simp only [if_true]; rw [hu]
      have HE := Lib.hid e1
      obtain ⟨v, q1, q2, q3⟩ := hG x rfl
      have c1 := q1.cell 0
      simp at c1
      have Q3 := Lib.hid q3
      obtain ⟨A3, cap3, rfl⟩ := Own.form q2
      clear hu e1 hG q3
      go_wp2_with fail
      go_ret
      rw [HE.out]
      exact ⟨_, rfl, q2, Q3.out, hr1, ((Touch.refl [p] w).then0 ht2).step ht3 (by simp)⟩
  · have e1 : rRead [] (pPart l limit) (e, a) = ([], (e, a)) := by unfold rRead; rw [if_neg he]
    have HE := Lib.hid e1
    clear e1
    go_enter Try.func37, Try.ntmps37
    go_wp2_with fail
    generalize ((w.alloc (.cells #[.pointer (some ⟨p, 0, none⟩)] 52)).alloc (.cells #[.int .i64 limit] 3)).alloc (.cells #[.slice none 0 0] 28) = w2 at *
    refine (value_err p inp l e a _ w2 h2 he).mono ?_
    rintro r w3 ⟨rfl, ht3⟩
    have c1 := (hc.touch ht3 (by simp)).cell 0
    simp at c1
    go_wp2_with fail
    go_ret
    rw [HE.out]
    exact ⟨_, rfl, Row.nil _, (fun g hg => by cases hg), h2.touch ht3 (by simp) (fun _ _ => by simp), ((Touch.refl [p] w).then0 ht2).then0 ht3⟩

set_option maxRecDepth 100000 in
set_option maxHeartbeats 400000 in
theorem string_cl (p N c L : Nat) (inp : Value) (l : List UInt8) (a : Nat) (limit : Int) (w : World) (h : Rd w p inp l 0 a) (hN : Blk w N 52 #[.pointer (some ⟨p, 0, none⟩)]) (hL : Blk w L 3 #[.int .i64 limit]) (hc : Blk w c 9 #[.string ⟨#[]⟩]) (hp : c ≠ p) (hi : c ∉ rb inp) :
    Calls Try.prog 93 #[.pointer (some ⟨N, 0, none⟩), .pointer (some ⟨L, 0, none⟩), .pointer (some ⟨c, 0, none⟩)] w (ClPost w p inp l [c] ((pPart l limit a).map (·.2)) fun w' => ∀ x, pPart l limit a = .ok x → Blk w' c 9 #[.string ⟨x.1.toArray⟩]) := by
  have c0 := hN.cell 0
  have c1 := hL.cell 0
  simp at c0 c1
  cases hg : pPart l limit a with
  | error k =>
    have HG := Lib.hid hg
    clear hg
    go_enter Try.func93, Try.ntmps93
    go_wp2_with fail
    refine (part_any p inp l 0 a limit w h).mono ?_
    rintro r w1 ⟨ht, hr⟩
    rw [HG.out] at hr
    obtain ⟨rfl, a1, hr1⟩ := hr
    unfold bad
    go_wp2_with fail
    exact ⟨rfl, rfl, ⟨a1, hr1⟩, ht⟩
  | ok x =>
    obtain ⟨y, a1⟩ := x
    have HG := Lib.hid hg
    clear hg
    go_enter Try.func93, Try.ntmps93
    go_wp2_with fail
    refine (part_any p inp l 0 a limit w h).mono ?_
    rintro r w1 ⟨ht, hr⟩
    rw [HG.out] at hr
    obtain ⟨v1, rfl, hv1, hvb, hr1⟩ := hr
    have hs := run_str hv1
    have hc1 := hc.touch ht (by simpa using hp)
    have k1 := hc1.cell 0
    have k2 := hc1.frozen 0
    simp at k1
    clear hvb
    go_wp2_with fail
    go_end0
    refine ⟨rfl, hr1.store hp hi _ _, (ht.mono (by simp)).setCell (.inl (by simp)) _, fun x hx => ?_⟩
    cases hx
    have := hc1.set_ 0 (.string ⟨y.toArray⟩)
    simpa using this

set_option maxRecDepth 100000 in
set_option maxHeartbeats 400000 in
theorem rd_string (p : Nat) (inp : Value) (l : List UInt8) (s : Int × Nat) (limit : Int) (w : World) (h : Rd w p inp l s.1 s.2) :
    Calls Try.prog 38 #[.pointer (some ⟨p, 0, none⟩), .int .i64 limit] w (RdOut w p inp l (.string ⟨(rRead [] (pPart l limit) s).1.toArray⟩) (rRead [] (pPart l limit) s).2) := by
  obtain ⟨e, a⟩ := s
  simp only at h
  have hmf := make_func
  have hp := h.1.lt
  have hi := Lib.hid h.2.2.2.2.1
  have ht2 : Touch [] w (((w.alloc (.cells #[.pointer (some ⟨p, 0, none⟩)] 52)).alloc (.cells #[.int .i64 limit] 3)).alloc (.cells #[.string ⟨#[]⟩] 9)) := (((Touch.refl [] w).alloc _).alloc _).alloc _
  have hN : Blk (((w.alloc (.cells #[.pointer (some ⟨p, 0, none⟩)] 52)).alloc (.cells #[.int .i64 limit] 3)).alloc (.cells #[.string ⟨#[]⟩] 9)) w.heap.size 52 #[.pointer (some ⟨p, 0, none⟩)] := ((Blk.new _ _ _).alloc _).alloc _
  have hL : Blk (((w.alloc (.cells #[.pointer (some ⟨p, 0, none⟩)] 52)).alloc (.cells #[.int .i64 limit] 3)).alloc (.cells #[.string ⟨#[]⟩] 9)) (w.heap.size + 1) 3 #[.int .i64 limit] := by
    have := (Blk.new (w.alloc (.cells #[.pointer (some ⟨p, 0, none⟩)] 52)) 3 #[.int .i64 limit]).alloc (.cells #[.string ⟨#[]⟩] 9)
    simpa using this
  have hc : Blk (((w.alloc (.cells #[.pointer (some ⟨p, 0, none⟩)] 52)).alloc (.cells #[.int .i64 limit] 3)).alloc (.cells #[.string ⟨#[]⟩] 9)) (w.heap.size + 2) 9 #[.string ⟨#[]⟩] := by
    have := Blk.new ((w.alloc (.cells #[.pointer (some ⟨p, 0, none⟩)] 52)).alloc (.cells #[.int .i64 limit] 3)) 9 #[.string ⟨#[]⟩]
    simpa using this
  have h2 := h.touch ht2 (by simp) (fun _ _ => by simp)
  by_cases he : e = 0
  · subst he
    go_enter Try.func38, Try.ntmps38
    go_wp2_with fail
    generalize ((w.alloc (.cells #[.pointer (some ⟨p, 0, none⟩)] 52)).alloc (.cells #[.int .i64 limit] 3)).alloc (.cells #[.string ⟨#[]⟩] 9) = w2 at *
    refine (value_any p inp l a 93 _ [(w.heap.size + 2)] ((pPart l limit a).map (·.2)) (fun w' => ∀ x, pPart l limit a = .ok x → Blk w' (w.heap.size + 2) 9 #[.string ⟨x.1.toArray⟩]) w2 h2 (fun W => by simp [go_sem]) (fun w1 ht1 => ?_)).mono ?_
    · exact string_cl p w.heap.size (w.heap.size + 2) (w.heap.size + 1) inp l a limit w1 (h2.touch ht1 (by simp) (fun _ _ => by simp)) (hN.touch ht1 (by simp)) (hL.touch ht1 (by simp)) (hc.touch ht1 (by simp)) (by omega) (fun hm => by have := hi.out _ hm; omega)
    rintro r w3 ⟨rfl, hr⟩
    cases hu : pPart l limit a with
    | error k =>
      rw [hu] at hr
      obtain ⟨hr1, ht3⟩ := hr
      have e1 : rRead [] (pPart l limit) (0, a) = ([], (k, a)) := by unfold rRead; simp only [if_true]; rw [hu]
      have HE := Lib.hid e1
      have c1 := (hc.touch ht3 (by simp; omega)).cell 0
      simp at c1
      clear hu e1
      go_wp2_with fail
      go_ret
      rw [HE.out]
      exact ⟨rfl, hr1, ((Touch.refl [p] w).then0 ht2).trans ht3⟩
    | ok x =>
      rw [hu] at hr
      obtain ⟨hr1, ht3, hG⟩ := hr
      have e1 : rRead [] (pPart l limit) (0, a) = (x.1, (0, x.2)) := by unfold rRead; simp only [if_true]; rw [hu]
      have HE := Lib.hid e1
      have c1 := (hG x rfl).cell 0
      simp at c1
      clear hu e1 hG
      go_wp2_with fail
      go_ret
      rw [HE.out]
      exact ⟨rfl, hr1, ((Touch.refl [p] w).then0 ht2).step ht3 (by simp)⟩
  · have e1 : rRead [] (pPart l limit) (e, a) = ([], (e, a)) := by unfold rRead; rw [if_neg he]
    have HE := Lib.hid e1
    clear e1
    go_enter Try.func38, Try.ntmps38
    go_wp2_with fail
    generalize ((w.alloc (.cells #[.pointer (some ⟨p, 0, none⟩)] 52)).alloc (.cells #[.int .i64 limit] 3)).alloc (.cells #[.string ⟨#[]⟩] 9) = w2 at *
    refine (value_err p inp l e a _ w2 h2 he).mono ?_
    rintro r w3 ⟨rfl, ht3⟩
    have c1 := (hc.touch ht3 (by simp)).cell 0
    simp at c1
    go_wp2_with fail
    go_ret
    rw [HE.out]
    exact ⟨rfl, h2.touch ht3 (by simp) (fun _ _ => by simp), ((Touch.refl [p] w).then0 ht2).then0 ht3⟩

end Go.Proofs.Ytpbknnkobhjjcaa
