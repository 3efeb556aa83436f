/- slices.Index, report.find, phaseOf, number, money: what they find, or the leaving. -/
import Derived.Test.YtedpaajpfaoffaaGreatDoorPaA
import Derived.Test.YtedpaajpfaoffaaGreatDoorSaA
import Derived.RangeFuncNested
import Derived.RangeFuncBound
import Derived.RangeFuncCalls
import Derived.RangeFuncLeaves
import Derived.RangeFuncBox
import Derived.Shelf.Abstract
import Derived.WalkKit
import Derived.OwnWalkIn
import Derived.TacticsInMore
import Derived.LoopNIn
import Derived.LoopIn
import Derived.Maps.AppendAt
set_option linter.all false
set_option maxHeartbeats 8000000
set_option maxRecDepth 100000
namespace Go.Proofs.YtedpaajpfaoffaaGreatDoor
open Go.RowKit
def idxI (xs : List (List UInt8)) (x : List UInt8) : Int := match idxO xs x with
 | some i => (i : Int)
 | none => -1
theorem idxO_at : ∀ {xs : List (List UInt8)} {x : List UInt8} {k : Nat}, (∀ j, j < k → xs[j]? ≠ some x) → xs[k]? = some x → idxO xs x = some k
 | [], x, k, h, h2 => by simp at h2
 | y :: ys, x, 0, h, h2 => by
  have hy : y = x := by simpa using h2
  unfold idxO
  rw [if_pos hy]
 | y :: ys, x, k + 1, h, h2 => by
  have hy : y ≠ x := by have := h 0 (by omega); simpa using this
  unfold idxO
  rw [if_neg hy, idxO_at (xs := ys) (k := k) (fun j hj => by have := h (j + 1) (by omega); simpa using this) (by simpa using h2)]
  rfl
theorem idxO_no : ∀ {xs : List (List UInt8)} {x : List UInt8}, (∀ j, j < xs.length → xs[j]? ≠ some x) → idxO xs x = none
 | [], x, h => rfl
 | y :: ys, x, h => by
  have hy : y ≠ x := by have := h 0 (by simp); simpa using this
  unfold idxO
  rw [if_neg hy, idxO_no (xs := ys) (fun j hj => by have := h (j + 1) (by simp; omega); simpa using this)]
  rfl
theorem idxO_lt : ∀ {xs : List (List UInt8)} {x : List UInt8} {k : Nat}, idxO xs x = some k → k < xs.length
 | [], x, k, h => by cases h
 | y :: ys, x, k, h => by
  unfold idxO at h
  split at h
  ·cases h; simp
  ·cases hk : idxO ys x with
   | none => rw [hk] at h; cases h
   | some j =>
    rw [hk] at h
    cases h
    have := idxO_lt hk
    simp
    omega
theorem index_any (v : Value) (xs : List (List UInt8)) (x : List UInt8) (w : World) (hv : StrsAt w v xs) : Calls Tryz.prog 154 #[v, .string ⟨x.toArray⟩] w fun r w' => r = .returned (.int .i64 (idxI xs x)) ∧ w' = w := by
 obtain ⟨A, cap, rfl, c1, c2⟩ := hv.form
 go_enter Tryz.func154, Tryz.ntmps154
 go_wp2_with fail
 go_loopw [8] (fun ti wr => ∃ k : Nat, k ≤ xs.length ∧ ti = .int .i64 k ∧ wr = w ∧ Hid (∀ j, j < k → xs[j]? ≠ some x)) (fun ti _ => xs.length - (intOf ti).toNat)
 case atStart => exact ⟨0, by omega, rfl, rfl, Lib.hid (fun j hj => by omega)⟩
 case round =>
  obtain ⟨k, hk, rfl, rfl, HD⟩ := hrel
  by_cases hlt : k < xs.length
  ·have hlt' : (k : Int) < (xs.length : Int) := by omega
   obtain ⟨b, off, rfl, hc⟩ := hv.addr hlt
   have q0 := hc _ (Touch.refl _ _)
   have HN : Hid (xs[k] ≠ x → ∀ j, j < k + 1 → xs[j]? ≠ some x) := Lib.hid (fun e j hj => by
    by_cases h : j < k
    ·exact HD.out j h
    ·obtain rfl : j = k := by omega
     rw [List.getElem?_eq_getElem hlt]
     exact fun e2 => e (by injection e2))
   have HB : Hid (xs[k] = x → idxI xs x = (k : Int)) := Lib.hid (fun e => by
    unfold idxI
    rw [idxO_at HD.out (by rw [List.getElem?_eq_getElem hlt, e])])
   generalize xs[k] = y at *
   by_cases he : x = y
   ·have HB2 := Lib.hid (HB.out he.symm)
    subst he
    clear hc HN HB HD
    go_wp2_with fail
    go_ret
    exact ⟨by rw [HB2.out]; rfl, rfl⟩
   ·have HN2 := Lib.hid (HN.out (fun e => he e.symm))
    have he2 : (x == y) = false := beq_false_of_ne he
    clear hc HN HB HD he
    go_wp2_with fail
    exact ⟨⟨k + 1, by omega, by go_num, by trivial, HN2⟩, by simp [intOf]; omega⟩
  ·have hlt' : ¬ (k : Int) < (xs.length : Int) := by omega
   have HF : Hid (idxI xs x = -1) := Lib.hid (by
    unfold idxI
    rw [idxO_no (fun j hj => HD.out j (by omega))])
   clear hk HD
   go_wp2_with fail
   go_ret
   exact ⟨by rw [HF.out]; rfl, rfl⟩
def FindPost (o : Option Nat) (w : World) (r : Ending) (w' : World) : Prop := w' = w ∧ match o with
 | some i => r = .returned (.int .i64 (i : Int))
 | none => r = unread
theorem find_any (v : Value) (xs : List (List UInt8)) (x : List UInt8) (w : World) (hv : StrsAt w v xs) : Calls Tryz.prog 109 #[v, .string ⟨x.toArray⟩] w (FindPost (idxO xs x) w) := by
 have HI := Lib.hid (index_any v xs x w hv)
 obtain ⟨A, cap, rfl, c1, c2⟩ := hv.form
 clear hv
 unfold idxI at HI
 cases ho : idxO xs x with
 | none =>
  rw [ho] at HI
  clear ho
  go_enter Tryz.func109, Tryz.ntmps109
  go_wp2_with fail
  refine HI.out.mono ?_
  rintro r w1 ⟨rfl, rfl⟩
  dsimp only
  go_wp2_with fail
  refine (must_false _).mono ?_
  rintro r w2 ⟨rfl, rfl⟩
  unfold unread
  go_wp2_with fail
  exact ⟨rfl, rfl, rfl⟩
 | some i =>
  rw [ho] at HI
  have hi0 : (0 : Int) ≤ (i : Int) := by omega
  clear ho
  go_enter Tryz.func109, Tryz.ntmps109
  go_wp2_with fail
  refine HI.out.mono ?_
  rintro r w1 ⟨rfl, rfl⟩
  dsimp only
  go_wp2_with fail
  refine (must_true _).mono ?_
  rintro r w2 ⟨rfl, rfl⟩
  go_wp2_with fail
  go_ret
  exact ⟨rfl, rfl⟩
def WordPost (o : Option Int) (w : World) (r : Ending) (w' : World) : Prop := Touch [] w w' ∧ match o with
 | some n => r = .returned (.int .i64 n)
 | none => r = unread
theorem strs_blk {w : World} {g : Nat} {t : TypeId} (xs : List (List UInt8)) (cs : Array Value) (hb : Blk w g t cs) (h : cs = (xs.map str).toArray) (hl : xs.length ≤ maxLen) : StrsAt w (.slice (some ⟨g, 0, none⟩) xs.length xs.length) xs := by
 subst h
 refine ⟨_, _, rfl, Nat.le_refl _, hl, by simp, fun _ => ⟨g, 0, rfl, hb.lt, fun j u hu => ?_⟩⟩
 rw [Nat.zero_add]
 have := hb.cell j
 rw [this]
 simpa using hu
theorem phaseOf_any (x : List UInt8) (w : World) (hn : RN w) : Calls Tryz.prog 58 #[.string ⟨x.toArray⟩] w (WordPost ((idxO phasesN x).map fun i => (i : Int) + 1) w) := by
 have c0 := hn.phases.cell 0
 have c1 := hn.phases.cell 1
 have c2 := hn.phases.cell 2
 have c3 := hn.phases.cell 3
 have c4 := hn.phases.cell 4
 simp at c0 c1 c2 c3 c4
 have hb := Blk.new w 76 #[.string ⟨#[114, 101, 118, 101, 114, 115, 101]⟩, .string ⟨#[102, 111, 114, 119, 97, 114, 100]⟩, .string ⟨#[97, 115, 115, 105, 103, 110]⟩, .string ⟨#[115, 111, 108, 100]⟩, .string ⟨#[102, 97, 105, 108, 101, 100]⟩]
 have ht := (Touch.refl [] w).alloc (.cells #[.string ⟨#[114, 101, 118, 101, 114, 115, 101]⟩, .string ⟨#[102, 111, 114, 119, 97, 114, 100]⟩, .string ⟨#[97, 115, 115, 105, 103, 110]⟩, .string ⟨#[115, 111, 108, 100]⟩, .string ⟨#[102, 97, 105, 108, 101, 100]⟩] 76)
 have HF := Lib.hid (find_any (.slice (some ⟨w.heap.size, 0, none⟩) 5 5) phasesN x _ (strs_blk phasesN _ hb rfl (by simp [phasesN, maxLen])))
 have HT := Lib.hid ht
 clear hb ht hn
 cases ho : idxO phasesN x with
 | none =>
  rw [ho] at HF
  go_enter Tryz.func58, Tryz.ntmps58
  go_wp2_with fail
  refine HF.out.mono ?_
  rintro r w1 ⟨rfl, rfl⟩
  unfold unread
  go_wp2_with fail
  exact ⟨rfl, HT.out, rfl⟩
 | some i =>
  rw [ho] at HF
  have hi := idxO_lt ho
  simp [phasesN] at hi
  clear ho
  go_enter Tryz.func58, Tryz.ntmps58
  go_wp2_with fail
  refine HF.out.mono ?_
  rintro r w1 ⟨rfl, rfl⟩
  dsimp only
  go_wp2_with fail
  go_ret
  exact ⟨HT.out, rfl⟩
theorem number_any (l : List UInt8) (w : World) (hl : l.length ≤ 100000) (hm : MF w) : Calls Tryz.prog 64 #[.string ⟨l.toArray⟩] w (WordPost (numO l) w) := by
 have hx : (ByteArray.mk l.toArray).data.toList = l := by simp
 have hsz := tx_size l
 unfold numO
 cases ha : Lib.atoiAll l with
 | ok v =>
  have HA := Lib.hid (Tryz.strconv_Atoi_ok ⟨l.toArray⟩ (by rw [hsz]; omega) v (by rw [hx]; exact ha) w)
  clear hm ha hx hsz
  go_enter Tryz.func64, Tryz.ntmps64
  go_wp2_with fail
  refine HA.out.mono ?_
  rintro r w2 ⟨rfl, hw2⟩
  have ht2 : Touch [] w w2 := by
   rcases hw2 with rfl | ⟨t, rfl⟩
   ·exact Touch.refl _ _
   ·exact touch_bytes
  clear hw2
  go_wp2_with fail
  refine (must_true _).mono ?_
  rintro r w3 ⟨rfl, rfl⟩
  go_wp2_with fail
  go_ret
  exact ⟨ht2, rfl⟩
 | range =>
  obtain ⟨ev, he1, he2⟩ := hm.ran
  have HA := Lib.hid (Tryz.strconv_Atoi_range ⟨l.toArray⟩ (by rw [hsz]; omega) (by rw [hx]; exact ha) ev w he1 he2)
  clear hm ha hx hsz he1 he2
  go_enter Tryz.func64, Tryz.ntmps64
  go_wp2_with fail
  refine HA.out.mono ?_
  rintro r w2 ⟨N, rfl, hN, hN2, hb⟩
  clear hN hN2
  have ht3 := Touch.of_below hb
  go_wp2_with fail
  refine (must_false _).mono ?_
  rintro r w3 ⟨rfl, rfl⟩
  unfold unread
  go_wp2_with fail
  exact ⟨rfl, ht3, rfl⟩
 | _ =>
  obtain ⟨ev, he1, he2⟩ := hm.syn
  have HA := Lib.hid (Any.strconv_Atoi_syntax Tryz.laysC172 ⟨l.toArray⟩ (by rw [hsz]; omega) (by rw [hx]; exact ha) ev w he1 he2)
  clear hm ha hx hsz he1 he2
  go_enter Tryz.func64, Tryz.ntmps64
  go_wp2_with fail
  refine HA.out.mono ?_
  rintro r w2 ⟨N, rfl, hN, hN2, hb⟩
  clear hN hN2
  have ht3 := Touch.of_below hb
  go_wp2_with fail
  refine (must_false _).mono ?_
  rintro r w3 ⟨rfl, rfl⟩
  unfold unread
  go_wp2_with fail
  exact ⟨rfl, ht3, rfl⟩
theorem rmoney_any (l : List UInt8) (w : World) (hl : l.length ≤ 100000) (hm : MF w) : Calls Tryz.prog 65 #[.string ⟨l.toArray⟩] w (WordPost (parseP l) w) := by
 have HP := Lib.hid (parse_any l w hl hm)
 unfold parseV at HP
 clear hm
 cases hp : parseP l with
 | none =>
  rw [hp] at HP
  clear hp
  go_enter Tryz.func65, Tryz.ntmps65
  go_wp2_with fail
  refine HP.out.mono ?_
  rintro r w1 ⟨rfl, ht⟩
  dsimp only
  go_wp2_with fail
  refine (must_false _).mono ?_
  rintro r w3 ⟨rfl, rfl⟩
  unfold unread
  go_wp2_with fail
  exact ⟨rfl, ht, rfl⟩
 | some n =>
  rw [hp] at HP
  clear hp
  go_enter Tryz.func65, Tryz.ntmps65
  go_wp2_with fail
  refine HP.out.mono ?_
  rintro r w1 ⟨rfl, ht⟩
  dsimp only
  go_wp2_with fail
  refine (must_true _).mono ?_
  rintro r w3 ⟨rfl, rfl⟩
  go_wp2_with fail
  go_ret
  exact ⟨ht, rfl⟩
end Go.Proofs.YtedpaajpfaoffaaGreatDoor
namespace Go.Proofs.YtedpaajpfaoffaaGreatDoor
open Go.RowKit
def Kind (W : World) (b : Nat) (t : TypeId) : Prop := ∃ cs fr, W.heap[b]? = some (.cells cs t fr)
section
variable {W W' : World} {b b' g n size : Nat} {t t' e : TypeId} {v : Value} {xs : List Value} {L : List Nat}
theorem Kind.ne (h : Kind W b t) (h' : Kind W b' t') (hne : t ≠ t') : b ≠ b' := by
 rintro rfl
 obtain ⟨cs, fr, e⟩ := h
 obtain ⟨cs', fr', e'⟩ := h'
 rw [e] at e'
 injection e' with e'
 injection e' with _ ht
 exact hne ht
theorem Blk.kind {cs : Array Value} (h : Blk W g t cs) : Kind W g t := ⟨_, _, h⟩
theorem Own.kind (h : Own W e size v n xs) : ∀ b ∈ blk v, Kind W b e := by
 rcases h.2 with ⟨rfl, _⟩ | ⟨g', cap, cur, rfl, _, hh, _⟩
 ·intro b hb; cases hb
 ·intro b hb
  have : b = g' := by simpa [blk] using hb
  subst this
  exact ⟨_, _, hh⟩
theorem Own.touchK (h : Own W e size v n xs) (ht : Touch L W W') (hk : ∀ b ∈ L, ∃ t, Kind W b t ∧ t ≠ e) : Own W' e size v n xs :=
 h.touch ht (fun b hb hm => by
  obtain ⟨t, k, ne⟩ := hk b hm
  exact Kind.ne k (h.kind b hb) ne rfl)
end
def KeepS (W W' : World) : Prop := ∀ (b : Nat) (cs : Array Value) (fr : Nat × Nat), W.heap[b]? = some (Obj.cells cs 9 fr) → W'.heap[b]? = some (Obj.cells cs 9 fr)
theorem KeepS.refl (W : World) : KeepS W W := fun _ _ _ h => h
theorem KeepS.trans {W W1 W2 : World} (h : KeepS W W1) (k : KeepS W1 W2) : KeepS W W2 := fun b cs fr e => k b cs fr (h b cs fr e)
theorem KeepS.of_touch {W W' : World} {L : List Nat} (ht : Touch L W W') (hk : ∀ b ∈ L, ∃ t, Kind W b t ∧ t ≠ 9) : KeepS W W' := fun b cs fr e => by
 rw [ht.block b (Array.getElem?_eq_some_iff.1 e).1 (fun hm => by
  obtain ⟨t, k, ne⟩ := hk b hm
  exact Kind.ne k ⟨cs, fr, e⟩ ne rfl)]
 exact e
theorem OwnS.keep {W W' : World} {u : Value} {xs : List (List UInt8)} (h : OwnS W u xs) (k : KeepS W W') : OwnS W' u xs := by
 refine ⟨h.1, ?_⟩
 rcases h.2 with hn | ⟨g, cap, cur, rfl, hb, hgg, rest⟩
 ·exact .inl hn
 ·exact .inr ⟨g, cap, cur, rfl, hb, k _ _ _ hgg, rest⟩
section
variable {p : Nat} {out v : Value} {s : WS} {w : World}
theorem uint_bad (n : Int) (h : Wr w p out s) (h0 : ¬ s.1 = 0) : Calls Tryz.prog 60 #[.pointer (some ⟨p, 0, none⟩), .int .i64 n] w fun r w' => r = .returned (.tuple #[]) ∧ w' = w := by
 obtain ⟨e, bs⟩ := s
 have h0' : (e == 0) = false := by simpa using h0
 have hr := ready_any p _ out e w h.1
 clear h0 h
 go_enter Tryz.func60, Tryz.ntmps60
 go_wp2_with fail
 refine hr.mono ?_
 rintro r w' ⟨rfl, rfl⟩
 go_wp2
 refine bodyPost_ret (results_none rfl _ _ _) rfl ?_
 exact ⟨rfl, rfl⟩
theorem ints_bad {l : List Int} (h : Wr w p out s) (hv : Ints w v l) (h0 : ¬ s.1 = 0) : Calls Tryz.prog 62 #[.pointer (some ⟨p, 0, none⟩), v] w fun r w' => r = .returned (.tuple #[]) ∧ w' = w := by
 obtain ⟨e, bs⟩ := s
 obtain ⟨A, cap, rfl, hcap, hmax, -, -⟩ := hv.1
 have h0' : (e == 0) = false := by simpa using h0
 have hr := ready_any p _ out e w h.1
 clear h0 h hv
 go_enter Tryz.func62, Tryz.ntmps62
 go_wp2_with fail
 refine hr.mono ?_
 rintro r w' ⟨rfl, rfl⟩
 go_wp2
 refine bodyPost_ret (results_none rfl _ _ _) rfl ?_
 exact ⟨rfl, rfl⟩
theorem text_bad (y : ByteArray) (h : Wr w p out s) (h0 : ¬ s.1 = 0) : Calls Tryz.prog 156 #[.pointer (some ⟨p, 0, none⟩), .string y] w fun r w' => r = .returned (.tuple #[]) ∧ w' = w := by
 obtain ⟨e, bs⟩ := s
 have h0' : (e == 0) = false := by simpa using h0
 have hr := ready_any p _ out e w h.1
 clear h0 h
 go_enter Tryz.func156, Tryz.ntmps156
 go_wp2_with fail
 refine hr.mono ?_
 rintro r w' ⟨rfl, rfl⟩
 go_wp2
 refine bodyPost_ret (results_none rfl _ _ _) rfl ?_
 exact ⟨rfl, rfl⟩
theorem str_bad (y : ByteArray) (h : Wr w p out s) (h0 : ¬ s.1 = 0) : Calls Tryz.prog 116 #[.pointer (some ⟨p, 0, none⟩), .string y] w fun r w' => r = .returned (.tuple #[]) ∧ w' = w := by
 have ht := text_bad y h h0
 clear h h0
 go_enter Tryz.func116, Tryz.ntmps116
 go_wp2_with fail
 refine ht.mono ?_
 rintro r w' ⟨rfl, rfl⟩
 go_wp2
 go_end0
 exact ⟨rfl, rfl⟩
end
def blkS (st : WS) (out : Value) : List Nat := if st.1 = 0 then blk out else []
structure Wa (w0 W : World) (p : Nat) (out : Value) (st : WS) : Prop where
 wr : Wr W p out st
 hp : w0.heap.size ≤ p
 ho : ∀ g ∈ blkS st out, w0.heap.size ≤ g
 t : Touch [] w0 W
def WaNext (w0 W : World) (p : Nat) (out : Value) (st st' : WS) (r : Ending) (W' : World) : Prop := r = .returned (.tuple #[]) ∧ ∃ out', Wa w0 W' p out' st' ∧ Touch (p :: blkS st out) W W' ∧ ∀ g ∈ blkS st' out', g ∈ blkS st out ∨ W.heap.size ≤ g
section
variable {w0 W W' : World} {p : Nat} {out : Value} {st : WS}
theorem Wa.lt (h : Wa w0 W p out st) : ∀ g ∈ blkS st out, g < W.heap.size := fun g hg => by
 unfold blkS at hg
 split at hg
 ·rename_i h0
  exact Own.lt (h.wr.2 h0).1 g hg
 ·cases hg
theorem Wa.plt (h : Wa w0 W p out st) : p < W.heap.size := h.wr.1.lt
theorem Wa.pn (h : Wa w0 W p out st) : p ∉ blkS st out := fun hg => by
 unfold blkS at hg
 split at hg
 ·rename_i h0
  exact Own.ne_blk (h.wr.2 h0).1 h.wr.1 (by decide) hg
 ·cases hg
theorem Wr.touch {L : List Nat} (h : Wr W p out st) (t : Touch L W W') (hp : p ∉ L) (hd : ∀ g ∈ blkS st out, g ∉ L) : Wr W' p out st :=
 ⟨h.1.touch t hp, fun h0 => ⟨Own.touch (h.2 h0).1 t (fun b hb => hd b (by unfold blkS; rw [if_pos h0]; exact hb)), (h.2 h0).2⟩⟩
theorem Wa.quiet (h : Wa w0 W p out st) (t : Touch [] W W') : Wa w0 W' p out st := ⟨h.wr.touch t (by simp) (fun _ _ => by simp), h.hp, h.ho, h.t.then0 t⟩
theorem Wa.far {L : List Nat} (h : Wa w0 W p out st) (t : Touch L W W') (hL : ∀ g ∈ L, w0.heap.size ≤ g ∧ g ≠ p ∧ g ∉ blkS st out) : Wa w0 W' p out st :=
 ⟨h.wr.touch t (fun hm => (hL _ hm).2.1 rfl) (fun g hg hm => (hL _ hm).2.2 hg), h.hp, h.ho, h.t.step t (fun g hg => .inr (hL g hg).1)⟩
theorem Wa.next {st' : WS} {r : Ending} (h : Wa w0 W p out st) (h0 : st.1 = 0) (hd : WrDone W p out st' r W') : WaNext w0 W p out st st' r W' := by
 obtain ⟨rfl, out', hw, ht, hf⟩ := hd
 have e : blkS st out = blk out := by unfold blkS; rw [if_pos h0]
 have hsub : ∀ g ∈ blkS st' out', g ∈ blkS st out ∨ W.heap.size ≤ g := fun g hg => by
  unfold blkS at hg
  split at hg
  ·rw [e]; exact hf g hg
  ·cases hg
 refine ⟨rfl, out', ⟨hw, h.hp, fun g hg => ?_, h.t.step ht (fun g hg => .inr ?_)⟩, by rw [e]; exact ht, hsub⟩
 ·rcases hsub g hg with h1 | h1
  ·exact h.ho g h1
  ·exact Nat.le_trans h.t.size h1
 ·rcases List.mem_cons.1 hg with rfl | h1
  ·exact h.hp
  ·exact h.ho g (by rw [e]; exact h1)
theorem Wa.same (h : Wa w0 W p out st) : WaNext w0 W p out st st (.returned (.tuple #[])) W := ⟨rfl, out, h, Touch.refl _ _, fun g hg => .inl hg⟩
theorem wInts_bad (s : WS) (l : List Int) (h : ¬ s.1 = 0) : wInts s l = s := wPut_bad _ _ h
theorem wBytes_bad (s : WS) (l : List UInt8) (h : ¬ s.1 = 0) : wBytes s l = s := wPut_bad _ _ h
theorem wa_uint (n : Int) (hn : n ≤ 9223372036854775807) (h : Wa w0 W p out st) : Calls Tryz.prog 60 #[.pointer (some ⟨p, 0, none⟩), .int .i64 n] W (WaNext w0 W p out st (wUint st n)) := by
 by_cases h0 : st.1 = 0
 ·exact (wr_uint p out st n W h.wr hn).mono fun r w' hd => h.next h0 hd
 ·rw [wUint_bad _ _ h0]
  exact (uint_bad n h.wr h0).mono fun r w' ⟨h1, h2⟩ => by subst h1 h2; exact h.same
theorem wa_ints {v : Value} {l : List Int} (hv : Ints W v l) (hd : ∀ g ∈ rb v, g ∉ blkS st out) (h : Wa w0 W p out st) : Calls Tryz.prog 62 #[.pointer (some ⟨p, 0, none⟩), v] W (WaNext w0 W p out st (wInts st l)) := by
 by_cases h0 : st.1 = 0
 ·exact (wr_ints p out v st l W h.wr hv (fun _ g hg => by have := hd g hg; unfold blkS at this; rwa [if_pos h0] at this)).mono fun r w' hd => h.next h0 hd
 ·rw [wInts_bad _ _ h0]
  exact (ints_bad h.wr hv h0).mono fun r w' ⟨h1, h2⟩ => by subst h1 h2; exact h.same
theorem wa_str (y : List UInt8) (hy : y.length ≤ maxLen) (h : Wa w0 W p out st) : Calls Tryz.prog 116 #[.pointer (some ⟨p, 0, none⟩), .string ⟨y.toArray⟩] W (WaNext w0 W p out st (wBytes st y)) := by
 by_cases h0 : st.1 = 0
 ·have := wr_str p out st ⟨y.toArray⟩ W h.wr (by rw [tx_size]; exact hy)
  rw [show (ByteArray.mk y.toArray).data.toList = y by simp] at this
  exact this.mono fun r w' hd => h.next h0 hd
 ·rw [wBytes_bad _ _ h0]
  exact (str_bad ⟨y.toArray⟩ h.wr h0).mono fun r w' ⟨h1, h2⟩ => by subst h1 h2; exact h.same
end
structure Wu (w0 W : World) (p : Nat) (out : Value) (st : WS) (u : Value) (xs : List (List UInt8)) : Prop where
 wa : Wa w0 W p out st
 strs : StrsAt W u xs
 dis : ∀ g ∈ rb u, g ≠ p ∧ g ∉ blkS st out
section
variable {w0 W W' : World} {p : Nat} {out u : Value} {st st' : WS} {xs : List (List UInt8)}
theorem StrsAt.touch {L : List Nat} (h : StrsAt W u xs) (t : Touch L W W') (hd : ∀ g ∈ rb u, g ∉ L) : StrsAt W' u xs := Reads.touch h t hd
theorem StrsAt.lt (h : StrsAt W u xs) : ∀ g ∈ rb u, g < W.heap.size := Reads.lt h
theorem StrsAt.at_ {g n cap : Nat} (h : StrsAt W (.slice (some ⟨g, 0, none⟩) n cap) xs) {j : Nat} {y : List UInt8} (hy : xs[j]? = some y) : W.cell? ⟨g, j, none⟩ = some (.string ⟨y.toArray⟩) := by
 obtain ⟨A', cap', e, h1, h2, h3, h4⟩ := h
 injection e with e1 e2 e3
 obtain ⟨hj, rfl⟩ := List.getElem?_eq_some_iff.1 hy
 obtain ⟨b, off, e4, hb, hc⟩ := h4 (by omega)
 rw [← e1] at e4
 injection e4 with e4
 injection e4 with e5 e6
 subst e5 e6
 have := hc j (str xs[j]) (by rw [List.getElem?_map, List.getElem?_eq_getElem hj]; rfl)
 rwa [Nat.zero_add] at this
theorem Wu.quiet (h : Wu w0 W p out st u xs) (t : Touch [] W W') : Wu w0 W' p out st u xs := ⟨h.wa.quiet t, h.strs.touch t (fun _ _ => by simp), h.dis⟩
theorem Wu.next {out' : Value} (h : Wu w0 W p out st u xs) (ha : Wa w0 W' p out' st') (ht : Touch (p :: blkS st out) W W') (hf : ∀ g ∈ blkS st' out', g ∈ blkS st out ∨ W.heap.size ≤ g) : Wu w0 W' p out' st' u xs := by
 refine ⟨ha, h.strs.touch ht (fun g hg hm => ?_), fun g hg => ⟨(h.dis g hg).1, fun hm => ?_⟩⟩
 ·rcases List.mem_cons.1 hm with e | e
  ·exact (h.dis g hg).1 e
  ·exact (h.dis g hg).2 e
 ·rcases hf g hm with h1 | h1
  ·exact (h.dis g hg).2 h1
  ·have := h.strs.lt g hg; omega
end
section
variable {w0 W W' : World} {p : Nat} {out : Value} {st : WS}
theorem Wa.pkind (h : Wa w0 W p out st) : Kind W p 96 := h.wr.1.kind
theorem Wa.okind (h : Wa w0 W p out st) : ∀ g ∈ blkS st out, Kind W g 5 := fun g hg => by
 unfold blkS at hg
 split at hg
 ·rename_i h0
  exact Own.kind (h.wr.2 h0).1 g hg
 ·cases hg
theorem Wa.keepS (h : Wa w0 W p out st) (ht : Touch (p :: blkS st out) W W') : KeepS W W' := KeepS.of_touch ht (fun b hb => by
 rcases List.mem_cons.1 hb with e | e
 ·subst e
  exact ⟨_, h.pkind, by decide⟩
 ·exact ⟨_, h.okind b e, by decide⟩)
end
def WaPost (w0 ws : World) (p : Nat) (o : Option WS) (r : Ending) (W' : World) : Prop := match o with
 | some st => r = .returned (.tuple #[]) ∧ ∃ out', Wa w0 W' p out' st ∧ KeepS ws W'
 | none => r = unread ∧ Touch [] w0 W'
end Go.Proofs.YtedpaajpfaoffaaGreatDoor
namespace Go.Proofs.YtedpaajpfaoffaaGreatDoor
open Go.RowKit Go.Shelf
attribute [local go_sem] Oper.semAt_some
theorem indexByte_no : ∀ {l : List UInt8}, (32 : UInt8) ∉ l → Lib.indexByte l 32 = -1
 | [], _ => rfl
 | c :: t, h => by
  have hc : (c == 32) = false := by
   rw [beq_eq_false_iff_ne]
   exact fun e => h (by simp [e])
  unfold Lib.indexByte
  rw [hc, indexByte_no (fun hm => h (List.mem_cons_of_mem _ hm))]
  rfl
theorem indexByte_at : ∀ {a : List UInt8} (r : List UInt8), (32 : UInt8) ∉ a → Lib.indexByte (a ++ 32 :: r) 32 = (a.length : Int)
 | [], r, _ => rfl
 | c :: t, r, h => by
  have hc : (c == 32) = false := by
   rw [beq_eq_false_iff_ne]
   exact fun e => h (by simp [e])
  rw [List.cons_append]
  unfold Lib.indexByte
  rw [hc, indexByte_at r (fun hm => h (List.mem_cons_of_mem _ hm))]
  have : ((t.length : Int) == -1) = false := by rw [beq_eq_false_iff_ne]; omega
  simp [this]
theorem split_case (s : List UInt8) : (32 : UInt8) ∉ s ∨ ∃ a r, s = a ++ 32 :: r ∧ (32 : UInt8) ∉ a := by
 induction s with
 | nil => exact .inl (by simp)
 | cons c t ih =>
  by_cases hc : c = 32
  ·exact .inr ⟨[], t, by rw [hc]; rfl, by simp⟩
  ·rcases ih with h | ⟨a, r, rfl, ha⟩
   ·refine .inl (fun hm => ?_)
    rcases List.mem_cons.1 hm with h1 | h1
    ·exact hc h1.symm
    ·exact h h1
   ·refine .inr ⟨c :: a, r, rfl, fun hm => ?_⟩
    rcases List.mem_cons.1 hm with h1 | h1
    ·exact hc h1.symm
    ·exact ha h1
theorem splitL_len (s : List UInt8) : (splitL s).length ≤ s.length + 1 := by
 induction s with
 | nil => simp [splitL]
 | cons c t ih =>
  unfold splitL
  split
  ·simp; omega
  ·split
   ·simp
   ·rename_i x r e
    rw [e] at ih
    simp at ih ⊢
    omega
def boxLeft (W : World) (bs : Nat) : Nat := match W.cell? ⟨bs, 0, none⟩ with
 | some (.string b) => b.size
 | _ => 0
theorem tx_word {a r : List UInt8} {m : Nat} (hm : m = a.length) : (ByteArray.mk (a ++ 32 :: r).toArray).extract 0 m = ByteArray.mk a.toArray := by
 subst hm
 apply ByteArray.ext
 simp
theorem tx_drop {a r : List UInt8} {m n : Nat} (hm : m = a.length + 1) (hn : (a ++ 32 :: r).length ≤ n) : (ByteArray.mk (a ++ 32 :: r).toArray).extract m n = ByteArray.mk r.toArray := by
 subst hm
 apply ByteArray.ext
 simp at hn ⊢
 exact List.take_of_length_le (by omega)
structure SpBox (W : World) (bp bs bv : Nat) (s : List UInt8) : Prop where
 sep : Boxed W bp 9 (.string ⟨#[32]⟩)
 rest : Boxed W bs 9 (.string ⟨s.toArray⟩)
 save : Boxed W bv 3 (.int .i64 0)
theorem splitIt (l bp bs bv : Nat) (hb1 : bp ≠ bs) (hb2 : bv ≠ bs) (s0 : List UInt8) (hl0 : s0.length ≤ 100000) (J : List (List UInt8) → World → Prop)
  (hJ : ∀ pre W v, J pre W → J pre (W.setCell ⟨bs, 0, none⟩ v))
  (hY : ∀ pre x r W, J pre W → splitL s0 = pre ++ x :: r → YieldAt Fence.wide 2 Tryz.prog l #[.string ⟨x.toArray⟩] W fun e W' => e = .returned (.bool true) ∧ J (pre ++ [x]) W' ∧ ∀ k, k = bp ∨ k = bs ∨ k = bv → W'.heap[k]? = W.heap[k]?)
  (W : World) (hb : SpBox W bp bs bv s0) (h0 : J [] W) :
  CallsIn Fence.wide 3 Tryz.prog 187 #[.func (.yield l) #[] #[], .pointer (some ⟨bp, 0, none⟩), .pointer (some ⟨bs, 0, none⟩), .pointer (some ⟨bv, 0, none⟩)] W fun e W' => (∃ v, e = .returned v) ∧ J (splitL s0) W' := by
 have HS := Lib.hid hl0
 refine callsIn_of_wp Tryz.func187 rfl trivial ?_ rfl
 simp only [Tryz.ntmps187, List.size_toArray, List.length_cons, List.length_nil, Nat.reduceAdd, Nat.reduceSub, Array.replicate_succ, Array.replicate_zero, List.push_toArray, List.append_toArray, List.nil_append, List.cons_append]
 have c1 := hb.sep.cell
 gi_wp2
 clear c1
 gi_loopw [7] (fun _ wr => ∃ (pre : List (List UInt8)) (s : List UInt8), SpBox wr bp bs bv s ∧ J pre wr ∧ Hid (splitL s0 = pre ++ splitL s) ∧ s.length ≤ 100000) (fun _ wr => boxLeft wr bs)
 case atStart => exact ⟨[], s0, hb, h0, Lib.hid rfl, HS.out⟩
 case round =>
  obtain ⟨pre, s, hbx, hj, HSP, hlen⟩ := hrel
  have c1 := hbx.sep.cell
  have c2 := hbx.rest.cell
  have c3 := hbx.save.cell
  have f2 := hbx.rest.frozen
  have hsz := tx_size s
  have hmeas : boxLeft wr bs = s.length := by unfold boxLeft; rw [c2]; exact hsz
  rcases split_case s with hno | ⟨x, r, rfl, hx⟩
  ·have HI : Hid (Calls Tryz.prog 163 #[.string ⟨s.toArray⟩, .string ⟨#[32]⟩] wr fun e w' => e = .returned (.int .i64 (-1)) ∧ w' = wr) := Lib.hid (by
    have := Tryz.strings_Index_one ⟨s.toArray⟩ 32 wr
    rwa [show (ByteArray.mk s.toArray).data.toList = s by simp, indexByte_no hno] at this)
   obtain ⟨fn, tmps, assign, body, hy, hR⟩ := hY pre s [] wr hj (by rw [HSP.out, splitL_none hno])
   have HE : Hid (splitL s0 = pre ++ [s]) := Lib.hid (by rw [HSP.out, splitL_none hno])
   clear HSP hno
   gi_wp2
   refine ⟨trivial, (callsIn_wide.2 HI.out).mono ?_⟩
   rintro e w' ⟨rfl, rfl⟩
   gi_wp2
   refine hR.mono ?_
   rintro e W3 ⟨rfl, hj3, hk3⟩
   gi_wp2
   go_end0
   exact ⟨⟨_, rfl⟩, by rw [HE.out]; exact hj3⟩
  ·have HI : Hid (Calls Tryz.prog 163 #[.string ⟨(x ++ 32 :: r).toArray⟩, .string ⟨#[32]⟩] wr fun e w' => e = .returned (.int .i64 (x.length : Int)) ∧ w' = wr) := Lib.hid (by
    have := Tryz.strings_Index_one ⟨(x ++ 32 :: r).toArray⟩ 32 wr
    rwa [show (ByteArray.mk (x ++ 32 :: r).toArray).data.toList = x ++ 32 :: r by simp, indexByte_at r hx] at this)
   obtain ⟨fn, tmps, assign, body, hy, hR⟩ := hY pre x (splitL r) wr hj (by rw [HSP.out, splitL_at hx])
   have HE : Hid (splitL s0 = (pre ++ [x]) ++ splitL r) := Lib.hid (by rw [HSP.out, splitL_at hx]; simp)
   have htk := tx_word (a := x) (r := r) rfl
   have hrl : (x ++ 32 :: r).length = x.length + 1 + r.length := by simp; omega
   have htd := tx_drop (a := x) (r := r) (n := x.length + 1 + r.length) rfl (by omega)
   have hxl : ¬ (x.length : Int) < 0 := by omega
   have HLEN := Lib.hid hlen
   clear HSP hx
   generalize hS : (x ++ 32 :: r) = S at *
   gi_wp2
   refine ⟨trivial, (callsIn_wide.2 HI.out).mono ?_⟩
   rintro e w' ⟨rfl, rfl⟩
   gi_wp2
   refine hR.mono ?_
   rintro e W3 ⟨rfl, hj3, hk3⟩
   have d1 : Boxed W3 bp 9 (.string ⟨#[32]⟩) := (hk3 bp (.inl rfl)).trans hbx.sep
   have d2 : Boxed W3 bs 9 (.string ⟨S.toArray⟩) := (hk3 bs (.inr (.inl rfl))).trans hbx.rest
   have d3 : Boxed W3 bv 3 (.int .i64 0) := (hk3 bv (.inr (.inr rfl))).trans hbx.save
   have e1 := d1.cell
   have e2 := d2.cell
   have e3 := d3.cell
   have e4 := d2.frozen
   gi_wp2
   have d4 := d2.set (.string ⟨r.toArray⟩)
   have e5 : boxLeft (W3.setCell ⟨bs, 0, none⟩ (.string ⟨r.toArray⟩)) bs = r.length := by
    unfold boxLeft
    rw [d4.cell]
    exact tx_size r
   refine ⟨⟨pre ++ [x], r, ⟨(Below.heap_setCell _ _ _ _ hb1).trans d1, d4, (Below.heap_setCell _ _ _ _ hb2).trans d3⟩, hJ _ _ _ hj3, HE, ?_⟩, ?_⟩
   ·have := HLEN.out; omega
   ·rw [e5, hmeas]; omega
end Go.Proofs.YtedpaajpfaoffaaGreatDoor
namespace Go.Proofs.YtedpaajpfaoffaaGreatDoor
open Go.RowKit Go.Shelf
attribute [local go_sem] Oper.semAt_some
def WordsPost (bp bs bv : Nat) (I : List (List UInt8) → World → Prop) (pre : List (List UInt8)) (W : World) : Exit → Act → World → Prop
 | .normal, _, W' => KeepsOthers W W' ∧ (∀ k, k = bp ∨ k = bs ∨ k = bv → W'.heap[k]? = W.heap[k]?) ∧ I pre W'
 | _, _, _ => False
theorem range_words {g : Operand} {ps : Array Tmp} {assign body : Code} {Q : Exit → Act → World → Prop} {a : Act} {w : World} (bp bs bv : Nat) (s0 : List UInt8) (hl0 : s0.length ≤ 100000) (hb1 : bp ≠ bs) (hb2 : bv ≠ bs)
  (hg : a.eval g = .func (.func 187) #[] #[.pointer (some ⟨bp, 0, none⟩), .pointer (some ⟨bs, 0, none⟩), .pointer (some ⟨bv, 0, none⟩)]) (hps : ps.size = 1) (hb : SpBox w bp bs bv s0)
  (I : List (List UInt8) → World → Prop) (hIset : ∀ pre W v, I pre W → I pre (W.setCell ⟨bs, 0, none⟩ v)) (hIput : ∀ pre W l o o', I pre W → w.heap.size ≤ l → W.heap[l]? = some o → o.isCells = false → I pre (W.putObj l o'))
  (h0 : ∀ o o', I [] ((w.alloc o).alloc o')) (a₁ : List UInt8 → Act)
  (hassign : ∀ (l : Nat) (x : List UInt8) (W : World) (K : Act → World → Prop), K (a₁ x) W → assign.wpIn (Fence.wide.inRound l) 2 Tryz.prog (Exit.then K (fun _ _ _ => False)) { tmps := (ps.zip #[.string ⟨x.toArray⟩]).foldl (fun t (p, v) => t.setIfInBounds p v) a.tmps, defers := [] } W)
  (hbody : ∀ (l : Nat) (pre : List (List UInt8)) (x : List UInt8) (r : List (List UInt8)) (W : World), I pre W → splitL s0 = pre ++ x :: r → w.heap.size ≤ W.heap.size → body.wpIn (Fence.wide.inRound l) 2 Tryz.prog (WordsPost bp bs bv I (pre ++ [x]) W) (a₁ x) W)
  (hdone : ∀ (W : World), I (splitL s0) W → W.heap[w.heap.size]? = some (.deferred (some [])) → Q .normal { a with defers := { target := .collected w.heap.size, args := #[] } :: a.defers } W) :
  (Code.rangeFunc g ps assign body).wpIn Fence.wide 4 Tryz.prog Q a w := by
 have hlp := hb.sep.lt
 have hls := hb.rest.lt
 have hlv := hb.save.lt
 refine wpIn_rangeFunc ?_
 intro fn hfn
 obtain ⟨rec, hrec⟩ : ∃ rec : LoopState → Option Code → Loop, rec = fun st pe => { state := st, pending := pe, fn := fn, tmps := a.tmps, params := ps, assign := assign, body := body, defers := w.heap.size } := ⟨_, rfl⟩
 obtain ⟨W1, hW1⟩ : ∃ W1, (w.alloc (.deferred (some []))).alloc (.loop (rec .ready none)) = W1 := ⟨_, rfl⟩
 have hL1 : W1.heap[w.heap.size + 1]? = some (.loop (rec .ready none)) := by
  rw [← hW1]
  have := World.alloc_heap_new (w.alloc (.deferred (some []))) (.loop (rec .ready none))
  rwa [World.size_alloc] at this
 have hK1 : W1.heap[w.heap.size]? = some (.deferred (some [])) := by
  rw [← hW1]
  exact (Below.heap_alloc _ _ _ (by simp)).trans (World.alloc_heap_new w _)
 have hI1 : I [] W1 := by rw [← hW1]; exact h0 _ _
 have hbx : SpBox W1 bp bs bv s0 := by
  rw [← hW1]
  exact ⟨(hb.sep.alloc _).alloc _, (hb.rest.alloc _).alloc _, (hb.save.alloc _).alloc _⟩
 refine ⟨w.heap.size + 1, [{ target := .collected w.heap.size, args := #[] }], W1, { target := .fn (.func 187) #[.pointer (some ⟨bp, 0, none⟩), .pointer (some ⟨bs, 0, none⟩), .pointer (some ⟨bv, 0, none⟩)], args := #[.func (.yield (w.heap.size + 1)) #[] #[]] }, W1, 187,
  #[.func (.yield (w.heap.size + 1)) #[] #[], .pointer (some ⟨bp, 0, none⟩), .pointer (some ⟨bs, 0, none⟩), .pointer (some ⟨bv, 0, none⟩)], W1, ?_, ?_, (fun _ _ => trivial), ?_, (fun h => by simp [Fence.wide] at h), ?_⟩
 ·rw [← hW1, hrec]
  exact run_enterLoop_outer _ _ _ _ _
 ·simp only [resolve, hg]
  simp [go_sem]
 ·have eg : ∀ args w, (callFunc 187 args).run Tryz.prog w = .ok (.enter 187 args) w := enters_of Tryz.func187 (by kernel_rfl) rfl
  simp [invoke, go_sem, eg]
 ·refine (splitIt (w.heap.size + 1) bp bs bv hb1 hb2 s0 hl0 (fun pre W => I pre W ∧ W.heap[w.heap.size + 1]? = some (.loop (rec .ready none)) ∧ W.heap[w.heap.size]? = some (.deferred (some []))) ?_ ?_ W1 hbx ⟨hI1, hL1, hK1⟩).mono ?_
  ·rintro pre W v ⟨h1, h2, h3⟩
   exact ⟨hIset _ _ _ h1, (Below.heap_setCell _ _ _ _ (by show w.heap.size + 1 ≠ bs; omega)).trans h2, (Below.heap_setCell _ _ _ _ (by show w.heap.size ≠ bs; omega)).trans h3⟩
  ·rintro pre x r W ⟨hi, hl, hk⟩ hsp
   have hlt : w.heap.size + 1 < W.heap.size := (Array.getElem?_eq_some_iff.1 hl).1
   have hy := run_yield (P := Tryz.prog) (args := #[.string ⟨x.toArray⟩]) hl (by rw [hrec]; exact hps.symm)
   rw [hrec] at hy
   refine ⟨fn, _, assign, body, hy, roundIn_of_wpIn hfn (hassign _ x W _ ⟨_, run_beginRound hl (by rw [hrec]), ?_⟩)⟩
   have hl2 : (W.putObj (w.heap.size + 1) (.loop { rec .ready none with state := .busy })).heap[w.heap.size + 1]? = some (.loop { rec .ready none with state := .busy }) := World.putObj_heap_same hlt
   have hk2 : (W.putObj (w.heap.size + 1) (.loop { rec .ready none with state := .busy })).heap[w.heap.size]? = some (.deferred (some [])) := (World.putObj_heap_other (by omega)).trans hk
   refine wpIn_mono (hbody _ pre x r _ (hIput _ _ _ _ _ hi (by omega) hl rfl) hsp (by simp; omega)) ?_
   rintro e a3 W3 hp
   cases e with
   | normal =>
    obtain ⟨hko, hbk, hi3⟩ := hp
    have hl3 := hko.same _ _ hl2 rfl
    have hk3 := hko.same _ _ hk2 rfl
    have hend := run_endRound (P := Tryz.prog) none hl3
    refine ⟨_, _, hend, rfl, ⟨hIput _ _ _ _ _ hi3 (by omega) hl3 rfl, ?_, (World.putObj_heap_other (by omega)).trans hk3⟩, fun k hkk => ?_⟩
    ·have := World.putObj_heap_same (w := W3) (r := w.heap.size + 1) (o := .loop (rec .ready none)) (Array.getElem?_eq_some_iff.1 hl3).1
     rw [hrec] at this ⊢
     exact this
    ·have hne : k ≠ w.heap.size + 1 := by rcases hkk with rfl | rfl | rfl <;> omega
     rw [World.putObj_heap_other hne, hbk k hkk, World.putObj_heap_other hne]
   | _ => exact hp.elim
  ·rintro e W2 ⟨⟨v, rfl⟩, hi, hl, hk⟩
   have hend := run_endLoop (P := Tryz.prog) hl (by rw [hrec]; simp)
   have hk2 : (W2.putObj (w.heap.size + 1) (.loop { rec .ready none with state := .exhausted })).heap[w.heap.size]? = some (.deferred (some [])) := (World.putObj_heap_other (by omega)).trans hk
   have hi2 := hIput _ _ _ _ (.loop { rec .ready none with state := .exhausted }) hi (by omega) hl rfl
   have hd := hdone _ hi2 hk2
   rw [hrec] at hend hd
   exact ⟨none, _, hend, hd⟩
theorem splitSeq_any (l : List UInt8) (w : World) : Calls Tryz.prog 155 #[.string ⟨l.toArray⟩, .string ⟨#[32]⟩, .int .i64 0] w fun e w' => e = .returned (.func (.func 187) #[] #[.pointer (some ⟨w.heap.size + 1, 0, none⟩), .pointer (some ⟨w.heap.size, 0, none⟩), .pointer (some ⟨w.heap.size + 2, 0, none⟩)]) ∧ w' = ((w.alloc (.cells #[.string ⟨l.toArray⟩] 9)).alloc (.cells #[.string ⟨#[32]⟩] 9)).alloc (.cells #[.int .i64 0] 3) := by
 have hmf := make_func
 go_enter Tryz.func155, Tryz.ntmps155
 go_wp2_with fail
 go_ret
 exact ⟨rfl, rfl⟩
theorem SplitSeq_any (l : List UInt8) (w : World) : Calls Tryz.prog 110 #[.string ⟨l.toArray⟩, .string ⟨#[32]⟩] w fun e w' => e = .returned (.func (.func 187) #[] #[.pointer (some ⟨w.heap.size + 1, 0, none⟩), .pointer (some ⟨w.heap.size, 0, none⟩), .pointer (some ⟨w.heap.size + 2, 0, none⟩)]) ∧ w' = ((w.alloc (.cells #[.string ⟨l.toArray⟩] 9)).alloc (.cells #[.string ⟨#[32]⟩] 9)).alloc (.cells #[.int .i64 0] 3) := by
 have HS := Lib.hid (splitSeq_any l w)
 go_enter Tryz.func110, Tryz.ntmps110
 go_wp2_with fail
 refine HS.out.mono ?_
 rintro r w1 ⟨rfl, rfl⟩
 go_wp2_with fail
 go_ret
 exact ⟨rfl, rfl⟩
theorem box_app {W w1 : World} {n₀ B : Nat} {v v' : Value} {k m : Nat} {xs ys : List Value} {tmp : Obj} (hv : Boxed W B 39 v) (hrow : W.ownsRow n₀ 9 1 v k xs) (hn₀ : n₀ ≤ W.heap.size) (hB : B < n₀) (hown' : w1.ownsRow n₀ 9 1 v' m ys) (hgrow : (W.alloc tmp).grownBy w1 v.ownBlock) :
  Boxed w1 B 39 v ∧ Boxed (w1.setCell ⟨B, 0, none⟩ v') B 39 v' ∧ (w1.setCell ⟨B, 0, none⟩ v').ownsRow n₀ 9 1 v' m ys ∧ KeepsOthers W (w1.setCell ⟨B, 0, none⟩ v') ∧ (∀ j, j < n₀ → j ≠ B → (w1.setCell ⟨B, 0, none⟩ v').heap[j]? = W.heap[j]?) ∧ Below B W (w1.setCell ⟨B, 0, none⟩ v') := by
 have hv1 : Boxed w1 B 39 v := (hv.alloc tmp).kept hgrow (hv.not_row (by decide) hrow)
 have hrb : ∀ j, v.ownBlock = some j → n₀ ≤ j := fun j ej => (hrow.lt j ej).1
 have hblk : ∀ j, j < n₀ → w1.heap[j]? = W.heap[j]? := fun j hj => (hgrow.block j (by simp; omega) (fun e => by have := hrb j e.symm; omega)).trans (Below.heap_alloc W tmp j (by omega))
 refine ⟨hv1, hv1.set v', ownsRow_setCell_below hown' hB v', ?_, fun j hj hne => (Below.heap_setCell _ _ _ _ hne).trans (hblk j hj), ?_⟩
 ·refine ((KeepsOthers.alloc W tmp).trans (KeepsOthers.of_grownBy hgrow fun j o ej hj => ?_)).trans (KeepsOthers.setCell _ _ _)
  rcases (hrow.alloc tmp).2 with ⟨rfl, _⟩ | ⟨g, cap, cur, rfl, _, hgb, _⟩
  ·simp [Value.ownBlock] at ej
  ·obtain rfl : g = j := by simpa [Value.ownBlock] using ej
   rw [hgb] at hj; cases hj; rfl
 ·exact (((Below.refl B W).alloc (by omega) tmp).grown hgrow (by simp; omega) (fun j ej => by have := hrb j ej; omega)).setCell (p := ⟨B, 0, none⟩) (Nat.le_refl _) v'
theorem infoS : (Tryz.prog.info? 9).map (fun i => (i.zero, i.size, i.bytes)) = some (some (.string ⟨#[]⟩), 1, 16) := by kernel_rfl
theorem splitL_pos (s : List UInt8) : 0 < (splitL s).length := List.length_pos_iff.2 (splitL_ne s)
def SplitPost (ws : List (List UInt8)) (w : World) (r : Ending) (w' : World) : Prop := ∃ g cap, r = .returned (.slice (some ⟨g, 0, none⟩) ws.length cap) ∧ w.heap.size ≤ g ∧ ws.length ≤ cap ∧ cap ≤ maxLen ∧ OwnS w' (.slice (some ⟨g, 0, none⟩) ws.length cap) ws ∧ Touch [] w w'
theorem split_any (line : List UInt8) (w : World) (hl : line.length ≤ 100000) : Calls Tryz.prog 59 #[.string ⟨line.toArray⟩] w (SplitPost (splitL line) w) := by
 obtain ⟨i0, hi, hz0, hz1, hz2⟩ := info_parts infoS
 have HSL := Lib.hid (splitL_len line)
 refine (callsIn_wide (n := 4)).1 ?_
 refine callsIn_of_wp_marks Tryz.func59 rfl trivial ?_ rfl
 simp only [Tryz.ntmps59, List.size_toArray, List.length_cons, List.length_nil, Nat.reduceAdd, Nat.reduceSub, Array.replicate_succ, Array.replicate_zero, List.push_toArray, List.append_toArray, List.nil_append, List.cons_append]
 gi_wp2
 refine ⟨trivial, (callsIn_wide.2 (SplitSeq_any line _)).mono ?_⟩
 rintro e w' ⟨rfl, rfl⟩
 gi_wp2
 have bB := Boxed.new w 39 (.slice none 0 0)
 have b1 := Boxed.new (w.alloc (.cells #[.slice none 0 0] 39)) 9 (.string ⟨line.toArray⟩)
 have b2 := Boxed.new ((w.alloc (.cells #[.slice none 0 0] 39)).alloc (.cells #[.string ⟨line.toArray⟩] 9)) 9 (.string ⟨#[32]⟩)
 have b3 := Boxed.new (((w.alloc (.cells #[.slice none 0 0] 39)).alloc (.cells #[.string ⟨line.toArray⟩] 9)).alloc (.cells #[.string ⟨#[32]⟩] 9)) 3 (.int .i64 0)
 have hB0 : Below w.heap.size w ((((w.alloc (.cells #[.slice none 0 0] 39)).alloc (.cells #[.string ⟨line.toArray⟩] 9)).alloc (.cells #[.string ⟨#[32]⟩] 9)).alloc (.cells #[.int .i64 0] 3)) := ((((Below.refl _ w).alloc (Nat.le_refl _) _).alloc (by simp) _).alloc (by simp; omega) _).alloc (by simp; omega) _
 simp only [World.size_alloc] at b1 b2 b3
 have bB' := ((bB.alloc (.cells #[.string ⟨line.toArray⟩] 9)).alloc (.cells #[.string ⟨#[32]⟩] 9)).alloc (.cells #[.int .i64 0] 3)
 have b1' := (b1.alloc (.cells #[.string ⟨#[32]⟩] 9)).alloc (.cells #[.int .i64 0] 3)
 have b2' := b2.alloc (.cells #[.int .i64 0] 3)
 clear bB b1 b2
 have hw1 : ((((w.alloc (.cells #[.slice none 0 0] 39)).alloc (.cells #[.string ⟨line.toArray⟩] 9)).alloc (.cells #[.string ⟨#[32]⟩] 9)).alloc (.cells #[.int .i64 0] 3)).heap.size = w.heap.size + 4 := by simp
 generalize (((w.alloc (.cells #[.slice none 0 0] 39)).alloc (.cells #[.string ⟨line.toArray⟩] 9)).alloc (.cells #[.string ⟨#[32]⟩] 9)).alloc (.cells #[.int .i64 0] 3) = w1 at *
 refine range_words (w.heap.size + 1 + 1) (w.heap.size + 1) (w.heap.size + 1 + 2) line hl (by omega) (by omega) rfl rfl ⟨b2', b1', b3⟩
  (fun pre W => (∃ v, Boxed W w.heap.size 39 v ∧ W.ownsRow (w.heap.size + 4) 9 1 v pre.length (pre.map str)) ∧ Below w.heap.size w W) ?set ?put ?start
  (fun x => { tmps := #[.string ⟨line.toArray⟩, undef, .slice none 0 0, .pointer (some ⟨w.heap.size, 0, none⟩), .string ⟨x.toArray⟩, .string ⟨line.toArray⟩, .func (.func 187) #[] #[.pointer (some ⟨w.heap.size + 1 + 1, 0, none⟩), .pointer (some ⟨w.heap.size + 1, 0, none⟩), .pointer (some ⟨w.heap.size + 1 + 2, 0, none⟩)], .string ⟨x.toArray⟩, undef, undef, undef, undef, undef], defers := [] }) ?assign ?body ?done
 case set =>
  rintro pre W v ⟨⟨u, hu, hr⟩, hB⟩
  exact ⟨⟨u, (Below.heap_setCell _ _ _ _ (by show w.heap.size ≠ w.heap.size + 1; omega)).trans hu, ownsRow_setCell_below hr (by show w.heap.size + 1 < w.heap.size + 4; omega) v⟩, hB.setCell (p := ⟨w.heap.size + 1, 0, none⟩) (by show w.heap.size ≤ w.heap.size + 1; omega) v⟩
 case put =>
  rintro pre W l o o' ⟨⟨u, hu, hr⟩, hB⟩ hl2 hlo ho
  refine ⟨⟨u, (World.putObj_heap_other (by omega)).trans hu, ownsRow_putObj hr o' hlo ho⟩, hB.trans ((Below.refl w.heap.size W).grown (grownBy_putObj' W l o') hB.size (fun k e => by cases e; omega))⟩
 case start =>
  intro o o'
  exact ⟨⟨_, (bB'.alloc o).alloc o', World.ownsRow_nil _ _ _ _⟩, (hB0.alloc (by omega) o).alloc (by simp; omega) o'⟩
 case assign =>
  intro l x W K hK
  gi_wp2
  exact hK
 case body =>
  rintro l pre x r W ⟨⟨v, hv, hrow⟩, hB⟩ hsp hsz
  have hc := hv.cell
  have hpl : pre.length + 1 ≤ 100001 := by
   have h1 := congrArg List.length hsp
   simp at h1
   have h2 := HSL.out
   omega
  rw [hw1] at hsz
  clear hsp
  gi_wp2_with (gi_at_builtin; refine wpListIn_append_own _ rfl _ _ 39 rfl (w.heap.size + 4) 9 i0 (.string ⟨#[]⟩) 1 16 Tryz.underlying39 hi hz0 hz1 hz2 rfl (by decide) _ _ _ rfl (hrow.alloc _) ⟨W.heap.size, 0, none⟩ 1 1 [.string ⟨x.toArray⟩] rfl rfl (cell_one_new _ _ _) (by simp [Value.oneCell']) (by unfold maxLen; omega) (by omega) (by simp; omega) ?_; intro v' w9 hown' hgrow _; obtain ⟨g', cap', rfl⟩ := ownsRow_succ hown'; obtain ⟨hv1, hv2, hr2, hk2, hb2, hb3⟩ := box_app hv hrow hsz (by omega) hown' hgrow; have hc1 := hv1.cell; have hf1 := hv1.frozen)
  refine ⟨hk2, fun k hk => hb2 k (by omega) (by omega), ⟨_, hv2, ?_⟩, hB.trans hb3⟩
  have e : (pre ++ [x]).length = pre.length + 1 := by simp
  rw [e, List.map_append]
  exact hr2
 case done =>
  rintro W ⟨⟨v, hv, hrow⟩, hB⟩ hK
  have hc := hv.cell
  have hpos := splitL_pos line
  have hrd := Reads.of_own hrow (by unfold maxLen; have := HSL.out; omega)
  gi_wp2
  refine ⟨by simp, .inl ⟨_, _, rfl, run_takeDeferred hK, ?_⟩⟩
  obtain ⟨m, hm⟩ : ∃ m, (splitL line).length = m + 1 := ⟨(splitL line).length - 1, by omega⟩
  rw [hm] at hrow
  obtain ⟨g, cap, rfl⟩ := ownsRow_succ hrow
  obtain ⟨A', cap', e, h1, h2, -⟩ := hrd
  injection e with e1 e2 e3
  subst e3
  have hg := (hrow.lt g rfl).1
  have hrow2 := ownsRow_putObj hrow (.deferred none) hK rfl
  rw [← hm] at hrow2
  refine ⟨_, results_tmp rfl _ _ _, g, cap, by rw [hm]; rfl, by omega, by omega, h2, ?_, Touch.of_below (hB.trans ((Below.refl w.heap.size W).grown (grownBy_putObj' W _ _) hB.size (fun k e => by cases e; omega)))⟩
  obtain ⟨q1, q2⟩ := hrow2
  refine ⟨q1, ?_⟩
  rcases q2 with q | ⟨g1, cap1, cur, q3, -, q4, q5, q6, q7⟩
  ·exact .inl q
  ·exact .inr ⟨g1, cap1, cur, q3, Nat.zero_le _, q4, q5, q6, q7⟩
end Go.Proofs.YtedpaajpfaoffaaGreatDoor
namespace Go.Proofs.YtedpaajpfaoffaaGreatDoor
open Go.RowKit
def restN (parts : List (List UInt8)) (k : Nat) : List (List UInt8) := if k = 0 then tailN parts else if k = 1 then (match parts.drop 1 with
 | [] => []
 | y :: q => if y = [45] then q else y :: q) else parts.drop k
theorem restN_one (parts : List (List UInt8)) : restN parts 1 = (match parts.drop 1 with
 | [] => []
 | y :: q => if y = [45] then q else y :: q) := rfl
theorem restN_ge {parts : List (List UInt8)} {k : Nat} (h : 2 ≤ k) : restN parts k = parts.drop k := by
 unfold restN
 rw [if_neg (by omega), if_neg (by omega)]
theorem restN_zero (parts : List (List UInt8)) : restN parts 0 = restN parts 1 := by
 cases parts with
 | nil => rfl
 | cons x r => rfl
theorem restN_skip {parts : List (List UInt8)} (hk : 1 < parts.length) (h : parts[1] = [45]) : restN parts 1 = restN parts 2 := by
 rw [restN_one, restN_ge (Nat.le_refl 2), List.drop_eq_getElem_cons hk]
 simp only
 rw [if_pos h]
theorem restN_take {parts : List (List UInt8)} {k : Nat} (h0 : k ≠ 0) (hk : k < parts.length) (h : k = 1 → parts[k] ≠ [45]) : restN parts k = parts[k] :: restN parts (k + 1) := by
 by_cases h1 : k = 1
 ·subst h1
  rw [restN_one, restN_ge (Nat.le_refl 2), List.drop_eq_getElem_cons hk]
  simp only
  rw [if_neg (h rfl)]
 ·rw [restN_ge (by omega), restN_ge (by omega), List.drop_eq_getElem_cons hk]
theorem restN_end {parts : List (List UInt8)} (hp : 0 < parts.length) : restN parts parts.length = [] := by
 by_cases h1 : parts.length = 1
 ·rw [h1, restN_one, List.drop_eq_nil_of_le (by omega)]
 ·rw [restN_ge (by omega), List.drop_length]
theorem nums_go {f : List UInt8 → Option Int} {parts : List (List UInt8)} {k : Nat} {ns : List Int} {n : Int} {fin : Option (List Int)} {x : List UInt8} {r : List (List UInt8)} (h : fin = (mapO f (x :: r)).map (fun t => ns ++ t)) (hx : f x = some n) : fin = (mapO f r).map (fun t => (ns ++ [n]) ++ t) := by
 rw [h, mapO, hx]
 cases mapO f r with
 | none => rfl
 | some t => simp
theorem nums_stop {f : List UInt8 → Option Int} {ns : List Int} {fin : Option (List Int)} {x : List UInt8} {r : List (List UInt8)} (h : fin = (mapO f (x :: r)).map (fun t => ns ++ t)) (hx : f x = none) : fin = none := by
 rw [h, mapO, hx]
 rfl
def NumsPost (o : Option (List Int)) (w : World) (r : Ending) (w' : World) : Prop := Touch [] w w' ∧ match o with
 | some ns => ∃ u, r = .returned u ∧ RowI w' u ns ∧ (∀ n ∈ ns, Fits n) ∧ (∀ g ∈ blk u, w.heap.size ≤ g) ∧ ns.length ≤ 100001
 | none => r = unread
def NumsRel (w : World) (f : List UInt8 → Option Int) (parts : List (List UInt8)) (g cap : Nat) (fin : Option (List Int)) (tl ti : Value) (wr : World) : Prop := ∃ (k : Nat) (ns : List Int), k ≤ parts.length ∧ ns.length ≤ k ∧ ti = .int .i64 k ∧ RowI wr tl ns ∧ Hid (∀ n ∈ ns, Fits n) ∧ Hid (∀ b ∈ blk tl, w.heap.size ≤ b ∧ b ≠ g) ∧ Touch [] w wr ∧ StrsAt wr (.slice (some ⟨g, 0, none⟩) parts.length cap) parts ∧ Hid (fin = (mapO f (restN parts k)).map (fun t => ns ++ t))
theorem unread_none {o : Option (List Int)} {w w' : World} (ht : Touch [] w w') (ho : o = none) : NumsPost o w unread w' := by
 subst ho
 exact ⟨ht, rfl⟩
theorem numbers_any (F : FuncId) (f : List UInt8 → Option Int) (line : List UInt8) (w : World) (hl : line.length ≤ 100000) (hw : ∀ y ∈ splitL line, y.length ≤ 100000)
  (hF : ∀ args W, (callFunc F args).run Tryz.prog W = .ok (.enter F args) W) (hcl : ∀ W y, Touch [] w W → y.length ≤ 100000 → Calls Tryz.prog F #[.string ⟨y.toArray⟩] W (WordPost (f y) W)) (hfit : ∀ y n, f y = some n → Fits n) :
  Calls Tryz.prog 63 #[.string ⟨line.toArray⟩, .func (.func F) #[] #[]] w (NumsPost (numsO f line) w) := by
 have HSP := Lib.hid (split_any line w hl)
 have HPOS := Lib.hid (splitL_pos line)
 have hlen := splitL_len line
 have HCL := Lib.hid hcl
 have HFIT := Lib.hid hfit
 have HW := Lib.hid hw
 generalize hfin : numsO f line = fin
 have HFIN : Hid (fin = (mapO f (restN (splitL line) 0)).map (fun t => [] ++ t)) := Lib.hid (by
  rw [← hfin]
  unfold numsO
  have : restN (splitL line) 0 = tailN (splitL line) := by unfold restN; rw [if_pos rfl]
  rw [this]
  cases mapO f (tailN (splitL line)) <;> rfl)
 generalize splitL line = parts at *
 clear hfin hcl hfit hw
 have hlp : parts.length ≤ 100001 := by omega
 clear hlen
 go_enter Tryz.func63, Tryz.ntmps63
 go_wp2_with fail
 refine HSP.out.mono ?_
 rintro r w1 ⟨g, cap, rfl, hg, hc1, hc2, hs1, ht1⟩
 clear HSP
 have hst : NumsRel w f parts g cap fin (.slice none 0 0) (.int .i64 0) w1 := ⟨0, [], by omega, by simp, rfl, RowI.nil _, Lib.hid (fun n hn => by cases hn), Lib.hid (fun b hb => by cases hb), ht1, hs1.reads, HFIN⟩
 clear HFIN hs1 ht1
 go_wp2_with fail
 go_loopw [5, 11] (fun tl ti wr => NumsRel w f parts g cap fin tl ti wr) (fun _ ti _ => parts.length - (intOf ti).toNat)
 case atStart => exact hst
 case round =>
  clear hst
  obtain ⟨k, ns, hk, hnk, rfl, hrow, HNF, HB, ht, hs, HX⟩ := hrel
  by_cases hlt : k < parts.length
  ·have hlt' : (k : Int) < (parts.length : Int) := by omega
   have q0 := hs.at_ (List.getElem?_eq_getElem hlt)
   by_cases hk0 : k = 0
   ·subst hk0
    have HX2 : Hid (fin = (mapO f (restN parts 1)).map (fun t => ns ++ t)) := Lib.hid (by rw [← restN_zero]; exact HX.out)
    generalize parts[0] = y at *
    clear HX
    go_wp2_with fail
    go_roundw
    case rel => exact ⟨1, ns, by omega, by omega, by go_num, hrow, HNF, HB, ht, hs, HX2⟩
    case measure => simp [intOf]; omega
   ·have hk0' : ((k : Int) == 0) = false := by rw [beq_eq_false_iff_ne]; omega
    by_cases hsk : k = 1 ∧ parts[k] = [45]
    ·obtain ⟨rfl, hy⟩ := hsk
     have HX2 : Hid (fin = (mapO f (restN parts 2)).map (fun t => ns ++ t)) := Lib.hid (by rw [← restN_skip hlt hy]; exact HX.out)
     rw [hy] at q0
     clear HX hy
     go_wp2_with fail
     go_roundw
     case rel => exact ⟨2, ns, by omega, by omega, by go_num, hrow, HNF, HB, ht, hs, HX2⟩
     case measure => simp [intOf]; omega
    ·have hx := HX.out
     rw [restN_take hk0 hlt (fun e h => hsk ⟨e, h⟩)] at hx
     have HX2 := Lib.hid hx
     have HC := Lib.hid (HCL.out wr parts[k] ht (HW.out _ (List.getElem_mem hlt)))
     have HFY := Lib.hid (HFIT.out parts[k])
     have hcond : ((k : Int) == 1) = false ∨ (((k : Int) == 1) = true ∧ (parts[k] == [45]) = false) := by
      by_cases h1 : k = 1
      ·exact .inr ⟨by simp [h1], beq_false_of_ne (fun e => hsk ⟨h1, e⟩)⟩
      ·exact .inl (by rw [beq_eq_false_iff_ne]; omega)
     clear HX hx hsk hk0
     generalize parts[k] = y at *
     obtain ⟨Al, cl, rfl⟩ := Own.form hrow
     have HROW := Lib.hid hrow
     have HS := Lib.hid hs
     clear hrow hs
     cases hfy : f y with
     | none =>
      rw [hfy] at HC
      have HN := Lib.hid (nums_stop HX2.out hfy)
      clear hfy HX2
      rcases hcond with hc | ⟨hc, hd⟩
      all_goals
       go_wp2_with fail
       refine HC.out.mono ?_
       rintro r w2 ⟨ht2, rfl⟩
       unfold unread
       go_wp2_with fail
       exact ⟨rfl, unread_none (ht.then0 ht2) HN.out⟩
     | some n =>
      rw [hfy] at HC
      have HN := Lib.hid (nums_go (parts := parts) (k := k) HX2.out hfy)
      have HFN := Lib.hid (HFY.out n hfy)
      clear hfy HX2 HFY
      have hgl : g < wr.heap.size := HS.out.lt g (by
       obtain ⟨m, hm⟩ : ∃ m, parts.length = m + 1 := ⟨parts.length - 1, by omega⟩
       rw [hm]
       simp [rb])
      rcases hcond with hc | ⟨hc, hd⟩
      all_goals
       go_wp2_with fail
       refine HC.out.mono ?_
       rintro r w2 ⟨ht2, rfl⟩
       have HROW2 : Hid (Own w2 3 1 (.slice Al ns.length cl) ns.length (ns.map I)) := Lib.hid (Own.touch0 HROW.out ht2)
       have HT2 := Lib.hid (ht.then0 ht2)
       have HS2 := Lib.hid (HS.out.touch ht2 (fun _ _ => by simp))
       have hgl2 : g < w2.heap.size := Nat.lt_of_lt_of_le hgl ht2.size
       dsimp only
       clear ht ht2 HROW HS hgl
       go_wp2_with (at_builtin; go_must (refine app_new elem_int HROW2.out [.int .i64 n] 1 1 (by omega) (by unfold maxLen; omega) ?_); intro v3 w3 ho3 ht3 hf3)
       go_roundw
       case rel =>
        refine ⟨k + 1, ns ++ [n], by omega, by simp; omega, by go_num, RowI.snoc ho3, Lib.hid (fun m hm => ?_), Lib.hid (fun b hb => ?_), HT2.out.step ht3 (fun b hb => .inr (HB.out b hb).1), HS2.out.touch ht3 (fun b hb hm => ?_), HN⟩
        ·rcases List.mem_append.1 hm with h1 | h1
         ·exact HNF.out m h1
         ·simp at h1
          rw [h1]
          exact HFN.out
        ·rcases hf3 b hb with h1 | h1
         ·exact HB.out b h1
         ·exact ⟨Nat.le_trans HT2.out.size h1, by omega⟩
        ·have h1 := rb_sub _ b hb
         simp [blk] at h1
         exact (HB.out b hm).2 h1
       case measure => simp [intOf]; omega
  ·have hlt' : ¬ (k : Int) < (parts.length : Int) := by omega
   obtain rfl : k = parts.length := by omega
   have HF : Hid (fin = some ns) := Lib.hid (by rw [HX.out, restN_end HPOS.out]; simp [mapO])
   clear HX
   go_wp2_with fail
   go_ret
   rw [HF.out]
   exact ⟨ht, _, rfl, hrow, HNF.out, fun b hb => (HB.out b hb).1, by omega⟩
end Go.Proofs.YtedpaajpfaoffaaGreatDoor
