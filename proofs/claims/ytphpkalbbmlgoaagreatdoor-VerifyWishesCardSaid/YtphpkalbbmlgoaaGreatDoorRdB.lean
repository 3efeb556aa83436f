/- The methods of the reader of package wire: strings and lists. -/
import Derived.Test.YtphpkalbbmlgoaaGreatDoorRdA
namespace Go.Proofs.YtphpkalbbmlgoaaGreatDoor
open Go.RowKit

end Go.Proofs.YtphpkalbbmlgoaaGreatDoor

namespace Go.Proofs.YtphpkalbbmlgoaaGreatDoor
open Go.RowKit

theorem run_str {w : World} {v : Value} {y : List UInt8} (h : Bytes w v y) : (convert 23 9 v).run Tryz.prog w = .ok (.string ⟨y.toArray⟩) w := by
  obtain ⟨A, cap, rfl, hcap, hmax, _, hc⟩ := h
  cases A with
  | none =>
    have hy : y = [] := by
      cases y with
      | nil => rfl
      | cons b t => obtain ⟨_, _, h, _⟩ := hc (by simp); cases h
    subst hy
    rw [run_convert_bytes_string w 23 9 5 none _ cap Tryz.underlying23 Tryz.underlying5 Tryz.underlying9]
    rfl
  | some ad =>
    refine run_convert_bytes_back w _ _ 5 ad cap y Tryz.underlying23 Tryz.underlying5 Tryz.underlying9 (fun j hj => ?_)
    obtain ⟨b, off, hA, _, hcell⟩ := hc (by omega)
    injection hA with hA
    subst hA
    rw [add_lit]
    exact hcell j _ (by simp [B, hj])

end Go.Proofs.YtphpkalbbmlgoaaGreatDoor

namespace Go.Proofs.YtphpkalbbmlgoaaGreatDoor
open Go.RowKit

def RowI (w : World) (v : Value) (xs : List Int) : Prop := Own w 3 1 v xs.length (xs.map I)

theorem RowI.nil (w : World) : RowI w (.slice none 0 0) [] := Own.nil w _ _

theorem RowI.snoc {w : World} {v : Value} {xs : List Int} {y : Int} (h : Own w 3 1 v (xs.length + 1) (xs.map I ++ [.int .i64 y])) : RowI w v (xs ++ [y]) := by
  unfold RowI
  simpa [I] using h

def cont (xs : List Int) : Except Int (List Int × Nat) → Except Int (List Int × Nat)
  | .error k => .error k
  | .ok ys => .ok (xs ++ ys.1, ys.2)

end Go.Proofs.YtphpkalbbmlgoaaGreatDoor

namespace Go.Proofs.YtphpkalbbmlgoaaGreatDoor
open Go.RowKit

theorem rd_err (p : Nat) (inp : Value) (l : List UInt8) (e : Int) (a : Nat) (w : World) (h : Rd w p inp l e a) :
    Calls Tryz.prog 30 #[.pointer (some ⟨p, 0, none⟩)] w fun r w' => r = .returned (.int .i64 e) ∧ w = w' := by
  have h3 := h.1.cell 0
  simp at h3
  go_enter Tryz.func30, Tryz.ntmps30
  go_wp2_with fail
  refine (h.valid).mono ?_
  rintro r w' ⟨rfl, rfl⟩
  go_wp2
  go_ret
  exact ⟨rfl, rfl⟩

def rEnd (l : List UInt8) (e : Int) (a : Nat) : Int := if e = 0 then (if a < l.length then 5 else 0) else e

set_option maxRecDepth 100000 in
set_option maxHeartbeats 400000 in
theorem rd_end (p : Nat) (inp : Value) (l : List UInt8) (e : Int) (a : Nat) (w : World) (h : Rd w p inp l e a) :
    Calls Tryz.prog 31 #[.pointer (some ⟨p, 0, none⟩)] w fun r w' => r = .returned (.int .i64 (rEnd l e a)) ∧ ∃ n, w' = w.drewN n := by
  have h0 := h.1.cell 0
  have h2 := h.1.cell 2
  have h3 := h.1.cell 3
  simp at h0 h2 h3
  obtain ⟨A, cap, rfl, hcap, hmax, _, hcells⟩ := id h.2.1
  clear hcells
  unfold rEnd
  by_cases he : e = 0
  · subst he
    rw [if_pos rfl]
    by_cases ha : a < l.length
    · rw [if_pos ha]
      have ha' : decide ((a : Int) < (l.length : Int)) = true := by simpa using ha
      go_enter Tryz.func31, Tryz.ntmps31
      go_wp2_with fail
      refine (h.valid).mono ?_
      rintro r w' ⟨rfl, rfl⟩
      go_wp2_with fail
      go_quiet (fail)
      go_wp2
      go_ret
      exact ⟨rfl, _, rfl⟩
    · rw [if_neg ha]
      have ha' : decide ((a : Int) < (l.length : Int)) = false := by simpa using ha
      go_enter Tryz.func31, Tryz.ntmps31
      go_wp2_with fail
      refine (h.valid).mono ?_
      rintro r w' ⟨rfl, rfl⟩
      go_wp2_with fail
      go_quiet (fail)
      go_wp2
      go_ret
      exact ⟨rfl, _, rfl⟩
  · rw [if_neg he]
    have he' : (e == 0) = false := by simpa using he
    go_enter Tryz.func31, Tryz.ntmps31
    go_wp2_with fail
    refine (h.valid).mono ?_
    rintro r w' ⟨rfl, rfl⟩
    go_wp2_with fail
    go_quiet (fail)
    go_wp2
    go_ret
    exact ⟨rfl, _, rfl⟩

theorem Rd.new {w : World} {inp : Value} {l : List UInt8} (h : Bytes w inp l) (hl : l.length ≤ 1099511627776) :
    Rd (w.alloc (.cells #[.int .i64 0, .bool true, inp, .int .i64 0] 159)) w.heap.size inp l 0 0 :=
  ⟨Blk.new _ _ _, Reads.touch0 h ((Touch.refl _ _).alloc _), fun hm => by have := Reads.lt h _ hm; omega, Nat.zero_le _, fun b hm => by have := Reads.lt h b hm; simp; omega, hl⟩

set_option maxRecDepth 100000 in
set_option maxHeartbeats 400000 in
theorem read_any (v : Value) (l : List UInt8) (w : World) (hv : Bytes w v l) (hl : l.length ≤ 1099511627776) :
    Calls Tryz.prog 27 #[v] w fun r w' => ∃ p inp, r = .returned (.pointer (some ⟨p, 0, none⟩)) ∧ w.heap.size ≤ p ∧ (∀ g ∈ rb inp, w.heap.size ≤ g) ∧ Rd w' p inp l 0 0 ∧ Touch [] w w' := by
  go_enter Tryz.func27, Tryz.ntmps27
  go_wp2_with (at_builtin; go_must (refine app_reads elem_u8 (Own.nil w _ 1) hv (B_ones l) (by simp; omega) (by unfold maxLen; simp; omega) ?_); intro v2 w2 ho2 ht2 hf2; obtain ⟨A2, cap2, rfl⟩ := Own.form ho2)
  go_ret
  simp only [Nat.zero_add, List.nil_append] at ho2 hf2
  have hb : Bytes w2 (.slice A2 l.length cap2) l := Row.bytes ho2
  refine ⟨w2.heap.size, .slice A2 l.length cap2, rfl, ht2.size, (fun g hg => hf2.none_ g (rb_sub _ g hg)), Rd.new hb hl, ?_⟩
  exact (show Touch [] w w2 from ht2).alloc _

def RdZero (w : World) (p : Nat) : Prop := Blk w p 159 #[.int .i64 0, .bool false, .slice none 0 0, .int .i64 0]

def NoRd (w : World) (A : Option Addr) : Prop := A = none ∨ ∃ p, A = some ⟨p, 0, none⟩ ∧ RdZero w p

theorem NoRd.touch {w w' : World} {A : Option Addr} (h : NoRd w A) (ht : Touch [] w w') : NoRd w' A := by
  rcases h with h | ⟨p, h, hz⟩
  · exact .inl h
  · exact .inr ⟨p, h, Blk.touch hz ht (by simp)⟩

theorem NoRd.value {w : World} {A : Option Addr} (h : NoRd w A) (f : Value) : Calls Tryz.prog 58 #[.pointer A, f] w fun r w' => r = .returned (.tuple #[]) ∧ Touch [] w w' := by
  rcases h with rfl | ⟨p, rfl, hz⟩
  · exact value_nil f w
  · exact value_zero p _ _ f w hz (by simp)

theorem NoRd.valid {w : World} {A : Option Addr} (h : NoRd w A) : Calls Tryz.prog 63 #[.pointer A] w fun r w' => r = .returned (.bool false) ∧ w = w' := by
  rcases h with rfl | ⟨p, rfl, hz⟩
  · exact valid_nil w
  · exact valid_any p _ _ false w hz (by simp)

end Go.Proofs.YtphpkalbbmlgoaaGreatDoor
