/- The reader of package wire: a value that is read, or the error that is caught. -/
import Derived.Test.YtpbknnkobhjjcaaReader2
import Derived.Defers
import Derived.Recover
namespace Go.Proofs.Ytpbknnkobhjjcaa
open Go.RowKit

theorem Rd.move' {w : World} {p : Nat} {inp : Value} {l : List UInt8} {e : Int} {a : Nat} (h : Rd w p inp l e a) (a' : Nat) : Blk (w.setCell ⟨p, 3, none⟩ (.int .i64 a')) p 78 #[.int .i64 e, .bool true, inp, .int .i64 a'] := by
  have := h.1.set_ 3 (.int .i64 a')
  simpa using this

theorem catch_idle (a b : Value) (w : World) :
    CallsD Try.prog 112 #[a, b] .returning w fun e u' w' => e = .returned (.tuple #[]) ∧ u' = .returning ∧ w' = w := by
  refine callsD_of_wpS Try.func112 rfl fun c₀ cs hu => ?_
  simp only [Try.ntmps112, List.size_toArray, List.length_cons, List.length_nil, Nat.reduceAdd, Nat.reduceSub, Array.replicate_succ, Array.replicate_zero, List.push_toArray, List.append_toArray, List.nil_append, List.cons_append]
  apply wpS_seq
  apply wpS_region
  simp [wpOpsS, go_sem, recoverD, hu, Exit.thenS]
  refine wpS_of_wp ?_
  go_wp2
  cases c₀
  simp_all [bodyPostS, results, Try.results112]

theorem assert_errno (k : Int) (w : World) : (Instr.typeAssert (Value.iface 25 (Value.int IntKind.i64 k)) 20 25 true).run Try.prog w = .ok (.tuple #[.int .i64 k, .bool true]) w := by kernel_rfl

set_option maxRecDepth 100000 in
set_option maxHeartbeats 400000 in
theorem catch_bad (p ps pr : Nat) (inp : Value) (l : List UInt8) (a start : Nat) (k : Int) (w : World) (h : Rd w p inp l 0 a) (hs : w.cell? ⟨ps, 0, none⟩ = some (.int .i64 start)) (hr : w.cell? ⟨pr, 0, none⟩ = some (.pointer (some ⟨p, 0, none⟩))) :
    CallsD Try.prog 112 #[.pointer (some ⟨ps, 0, none⟩), .pointer (some ⟨pr, 0, none⟩)] (.panicking [{ v := .iface 25 (.int .i64 k), recovered := false }]) w fun e u' w' =>
      e = .returned (.tuple #[]) ∧ u' = .panicking [{ v := .iface 25 (.int .i64 k), recovered := true }] ∧ w' = (w.setCell ⟨p, 3, none⟩ (.int .i64 start)).setCell ⟨p, 0, none⟩ (.int .i64 k) := by
  have h3 := h.1.cell 3
  have hf := h.1.frozen 3
  simp at h3
  have hta := assert_errno k
  have hr2 : (w.setCell ⟨p, 3, none⟩ (.int .i64 start)).cell? ⟨pr, 0, none⟩ = some (.pointer (some ⟨p, 0, none⟩)) := by
    rw [World.cell?_setCell_other _ _ _ _ (by simp)]
    exact hr
  have hm := h.move' start
  refine callsD_of_wpS Try.func112 rfl fun c₀ cs hu => ?_
  simp only [Try.ntmps112, List.size_toArray, List.length_cons, List.length_nil, Nat.reduceAdd, Nat.reduceSub, Array.replicate_succ, Array.replicate_zero, List.push_toArray, List.append_toArray, List.nil_append, List.cons_append]
  apply wpS_seq
  apply wpS_region
  simp [wpOpsS, go_sem, recoverD, hu, Exit.thenS]
  refine wpS_of_wp ?_
  go_wp2_with fail
  refine (note_first p _ _ k _ hm (by simp)).mono ?_
  rintro r w' ⟨rfl, rfl⟩
  go_wp2
  cases c₀
  simp_all [bodyPostS, results, Try.results112]

set_option maxRecDepth 100000 in
set_option maxHeartbeats 400000 in
theorem valid_any (p : Nat) (t : TypeId) (cs : Array Value) (b : Bool) (w : World) (hb : Blk w p t cs) (h1 : cs[1]? = some (.bool b)) :
    Calls Try.prog 86 #[.pointer (some ⟨p, 0, none⟩)] w fun r w' => r = .returned (.bool b) ∧ w = w' := by
  have hc := hb.cell 1
  rw [h1] at hc
  clear h1
  go_enter Try.func86, Try.ntmps86
  go_wp2
  go_ret
  exact ⟨rfl, rfl⟩
theorem valid_nil (w : World) : Calls Try.prog 86 #[.pointer none] w fun r w' => r = .returned (.bool false) ∧ w = w' := by
  go_enter Try.func86, Try.ntmps86
  go_wp2
  go_ret
  exact ⟨rfl, rfl⟩
theorem Rd.valid {w : World} {p : Nat} {inp : Value} {l : List UInt8} {e : Int} {a : Nat} (h : Rd w p inp l e a) : Calls Try.prog 86 #[.pointer (some ⟨p, 0, none⟩)] w fun r w' => r = .returned (.bool true) ∧ w = w' :=
  valid_any p _ _ true w h.1 (by simp)

/-- What a closure that reads a value leaves. -/
def ClPost (w : World) (p : Nat) (inp : Value) (l : List UInt8) (C : List Nat) (res : Except Int Nat) (G : World → Prop) (r : Ending) (w' : World) : Prop := match res with
  | .ok a' => r = .returned (.tuple #[]) ∧ Rd w' p inp l 0 a' ∧ Touch (p :: C) w w' ∧ G w'
  | .error k => r = bad k ∧ (∃ a', Rd w' p inp l 0 a') ∧ Touch [p] w w'
/-- What 'value' leaves. -/
def ValPost (w : World) (p : Nat) (inp : Value) (l : List UInt8) (a : Nat) (C : List Nat) (res : Except Int Nat) (G : World → Prop) (r : Ending) (w' : World) : Prop := r = .returned (.tuple #[]) ∧ match res with
  | .ok a' => Rd w' p inp l 0 a' ∧ Touch (p :: C) w w' ∧ G w'
  | .error k => Rd w' p inp l k a ∧ Touch [p] w w'

theorem make_func : ∀ (fn : Fn) (first cap : Array Value) (w : World), (Instr.makeFunc fn first cap).run Try.prog w = .ok (.func fn first cap) w := fun _ _ _ _ => rfl

set_option maxRecDepth 100000 in
set_option maxHeartbeats 400000 in
theorem value_any (p : Nat) (inp : Value) (l : List UInt8) (a : Nat) (F : FuncId) (caps : Array Value) (C : List Nat) (res : Except Int Nat) (G : World → Prop) (w : World) (h : Rd w p inp l 0 a)
    (hF : ∀ W, (callFunc F caps).run Try.prog W = .ok (.enter F caps) W) (hcl : ∀ w1, Touch [] w w1 → Calls Try.prog F caps w1 (ClPost w1 p inp l C res G)) :
    Calls Try.prog 83 #[.pointer (some ⟨p, 0, none⟩), .func (.func F) #[] caps] w (ValPost w p inp l a C res G) := by
  have HC := Lib.hid hcl
  clear hcl
  have hmf := make_func
  have hp := h.1.lt
  have hin : ∀ b ∈ rb inp, b ∉ ([] : List Nat) := fun _ _ => by simp
  have h1 := h.touch ((Touch.refl [] w).alloc (.cells #[.pointer (some ⟨p, 0, none⟩)] 52)) (by simp) hin
  have h0 := h1.1.cell 0
  have h3 := h1.1.cell 3
  simp at h0 h3
  clear hin
  go_enter_defers Try.func83, Try.ntmps83
  go_wp2_with fail
  refine (h1.valid).mono ?_
  rintro r w' ⟨rfl, rfl⟩
  go_wp2_with fail
  have ht2 : Touch [] w ((w.alloc (.cells #[.pointer (some ⟨p, 0, none⟩)] 52)).alloc (.cells #[.int .i64 (a : Int)] 3)) := ((Touch.refl [] w).alloc _).alloc _
  have hbr : Blk ((w.alloc (.cells #[.pointer (some ⟨p, 0, none⟩)] 52)).alloc (.cells #[.int .i64 (a : Int)] 3)) w.heap.size 52 #[.pointer (some ⟨p, 0, none⟩)] := (Blk.new _ _ _).alloc _
  have hbs : Blk ((w.alloc (.cells #[.pointer (some ⟨p, 0, none⟩)] 52)).alloc (.cells #[.int .i64 (a : Int)] 3)) (w.heap.size + 1) 3 #[.int .i64 (a : Int)] := by
    have := Blk.new (w.alloc (.cells #[.pointer (some ⟨p, 0, none⟩)] 52)) 3 #[.int .i64 (a : Int)]
    simpa using this
  generalize (w.alloc (.cells #[.pointer (some ⟨p, 0, none⟩)] 52)).alloc (.cells #[.int .i64 (a : Int)] 3) = w2 at *
  refine ((HC.out) w2 ht2).mono ?_
  clear h0 h3 h1
  intro r w3 hr
  cases res with
  | error k =>
    obtain ⟨rfl, ⟨a', hr'⟩, ht3⟩ := hr
    unfold bad
    have c1 := (hbr.touch ht3 (by simp; omega)).cell 0
    have c2 := (hbs.touch ht3 (by simp; omega)).cell 0
    simp at c1 c2
    go_wp2_with fail
    refine leaves_cons (f := 112) (args := #[.pointer (some ⟨w.heap.size + 1, 0, none⟩), .pointer (some ⟨w.heap.size, 0, none⟩)]) (by simp) (by simp [go_sem]) ?_
    refine (catch_bad p (w.heap.size + 1) w.heap.size inp l a' a k w3 hr' c2 c1).mono ?_
    rintro e u' w4 ⟨rfl, rfl, rfl⟩
    have hend : ValPost w p inp l a C (.error k) G (.returned (.tuple #[])) ((w3.setCell ⟨p, 3, none⟩ (.int .i64 a)).setCell ⟨p, 0, none⟩ (.int .i64 k)) :=
      ⟨rfl, (hr'.move a h.2.2.2.1).note k, ((((Touch.refl [p] w).then0 ht2).trans ht3).setCell (.inl (by simp)) _).setCell (.inl (by simp)) _⟩
    have HE := Lib.hid hend
    clear hend
    simp [Leaves, settle, results, Try.results83, go_sem]
    exact HE.out
  | ok a' =>
    obtain ⟨rfl, hr', ht3, hG⟩ := hr
    have hend : ValPost w p inp l a C (.ok a') G (.returned (.tuple #[])) w3 :=
      ⟨rfl, hr', ((Touch.refl (p :: C) w).then0 ht2).trans ht3, hG⟩
    have HE := Lib.hid hend
    clear hend hG
    go_wp2_with fail
    refine leaves_cons (f := 112) (args := #[.pointer (some ⟨w.heap.size + 1, 0, none⟩), .pointer (some ⟨w.heap.size, 0, none⟩)]) (by simp) (by simp [go_sem]) ?_
    refine (catch_idle _ _ w3).mono ?_
    rintro e u' w4 ⟨rfl, rfl, rfl⟩
    simp [Leaves, settle, results, Try.results83, go_sem]
    exact HE.out

set_option maxRecDepth 100000 in
set_option maxHeartbeats 400000 in
/-- After an error nothing is read. -/
theorem value_err (p : Nat) (inp : Value) (l : List UInt8) (e : Int) (a : Nat) (f : Value) (w : World) (h : Rd w p inp l e a) (he : ¬ e = 0) :
    Calls Try.prog 83 #[.pointer (some ⟨p, 0, none⟩), f] w fun r w' => r = .returned (.tuple #[]) ∧ Touch [] w w' := by
  have hp := h.1.lt
  have hin : ∀ b ∈ rb inp, b ∉ ([] : List Nat) := fun _ _ => by simp
  have h1 := h.touch ((Touch.refl [] w).alloc (.cells #[.pointer (some ⟨p, 0, none⟩)] 52)) (by simp) hin
  have h0 := h1.1.cell 0
  simp at h0
  clear hin
  have he' : (e != 0) = true := by simpa using he
  go_enter_defers Try.func83, Try.ntmps83
  go_wp2_with fail
  refine (h1.valid).mono ?_
  rintro r w' ⟨rfl, rfl⟩
  go_wp2_with fail
  simp [bodyPostD, Leaves, results, Try.results83, go_sem]
  exact (Touch.refl [] w).alloc _
set_option maxRecDepth 100000 in
set_option maxHeartbeats 400000 in
theorem value_nil (f : Value) (w : World) :
    Calls Try.prog 83 #[.pointer none, f] w fun r w' => r = .returned (.tuple #[]) ∧ Touch [] w w' := by
  go_enter_defers Try.func83, Try.ntmps83
  go_wp2_with fail
  refine (valid_nil _).mono ?_
  rintro r w' ⟨rfl, rfl⟩
  go_wp2_with fail
  simp [bodyPostD, Leaves, results, Try.results83, go_sem]
  exact (Touch.refl [] w).alloc _
set_option maxRecDepth 100000 in
set_option maxHeartbeats 400000 in
theorem value_zero (p : Nat) (t : TypeId) (cs : Array Value) (f : Value) (w : World) (hb : Blk w p t cs) (h1 : cs[1]? = some (.bool false)) :
    Calls Try.prog 83 #[.pointer (some ⟨p, 0, none⟩), f] w fun r w' => r = .returned (.tuple #[]) ∧ Touch [] w w' := by
  have H1 := Lib.hid h1
  clear h1
  go_enter_defers Try.func83, Try.ntmps83
  go_wp2_with fail
  refine (valid_any p t cs false _ (hb.alloc _) H1.out).mono ?_
  rintro r w' ⟨rfl, rfl⟩
  go_wp2_with fail
  simp [bodyPostD, Leaves, results, Try.results83, go_sem]
  exact (Touch.refl [] w).alloc _
end Go.Proofs.Ytpbknnkobhjjcaa
