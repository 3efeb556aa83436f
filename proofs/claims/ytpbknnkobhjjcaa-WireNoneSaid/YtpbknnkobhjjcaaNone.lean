/- The law WireNone: its walk. -/
import Derived.Test.YtpbknnkobhjjcaaRound
namespace Go.Proofs.Ytpbknnkobhjjcaa
open Go.RowKit

set_option maxRecDepth 100000 in
set_option maxHeartbeats 400000 in
theorem write_nil0 (n : Int) (w : World) :
    Calls Try.prog 20 #[.pointer none, .agg #[.int .u8 0, .int .i64 n, .slice none 0 0, .slice none 0 0]] w fun r w' => r = .returned (.tuple #[]) ∧ Touch [] w w' := by
  go_enter Try.func20, Try.ntmps20
  go_wp2_with fail
  refine (wr_uint_nil n _).mono ?_
  rintro r w' ⟨rfl, rfl⟩
  go_wp2_with fail
  go_end0
  exact ⟨rfl, (Touch.refl _ _).alloc _⟩
set_option maxRecDepth 100000 in
set_option maxHeartbeats 400000 in
theorem write_nil3 (A : Option Addr) (n c : Nat) (w : World) :
    Calls Try.prog 20 #[.pointer none, .agg #[.int .u8 3, .int .i64 0, .slice A n c, .slice none 0 0]] w fun r w' => r = .returned (.tuple #[]) ∧ Touch [] w w' := by
  go_enter Try.func20, Try.ntmps20
  go_wp2_with fail
  refine (wr_bytes_nil _ _).mono ?_
  rintro r w' ⟨rfl, rfl⟩
  go_wp2_with fail
  go_end0
  exact ⟨rfl, (Touch.refl _ _).alloc _⟩

def NoneRel (w : World) (B P : Nat) (t : Value) (wr : World) : Prop :=
  ∃ k : Nat, k ≤ 2 ∧ t = .int .i64 k ∧ Blk wr B 52 #[.pointer none, .pointer (some ⟨P, 0, none⟩)] ∧ RdZero wr P ∧ Touch [] w wr
theorem NoneRel.next {w wr w' : World} {B P k : Nat} (hk : k < 2) (h1 : Blk wr B 52 #[.pointer none, .pointer (some ⟨P, 0, none⟩)]) (h2 : RdZero wr P) (h3 : Touch [] w wr) (ht : Touch [] wr w') : NoneRel w B P (.int .i64 ((k : Int) + 1)) w' :=
  ⟨k + 1, hk, by go_num, h1.touch ht (by simp), Blk.touch h2 ht (by simp), h3.then0 ht⟩

set_option maxRecDepth 100000 in
set_option maxHeartbeats 2000000 in
theorem none_walk (n : Int) (v : Value) (l : List UInt8) (w : World) (hv : Bytes w v l) :
    Calls Try.prog 10 #[.int .i64 n, v] w fun r w' => r = .returned (.bool true) ∧ Touch [] w w' := by
  obtain ⟨A, cap, rfl, _, _, _, _⟩ := id hv
  clear hv
  by_cases hl : 50 < l.length
  · have hl' : (50 : Int) < (l.length : Int) := by omega
    go_enter Try.func10, Try.ntmps10
    go_wp2_with fail
    refine (known_any _).mono ?_
    rintro r w7 ⟨rfl, ht7⟩
    go_wp2_with fail
    go_ret
    exact ⟨rfl, ht7⟩
  · have hl' : ¬ (50 : Int) < (l.length : Int) := by omega
    go_enter Try.func10, Try.ntmps10
    go_wp2_with fail
    refine (write_nil0 n w).mono ?_
    rintro r w1 ⟨rfl, ht1⟩
    go_wp2_with fail
    refine (write_nil3 A l.length cap w1).mono ?_
    rintro r w2 ⟨rfl, ht2⟩
    go_wp2_with fail
    refine (wr_end_nil w2).mono ?_
    rintro r w' ⟨rfl, rfl⟩
    have htt := ht1.then0 ht2
    clear ht1 ht2
    go_wp2_with fail
    go_loopw [40] (fun t wr => NoneRel w (w2.heap.size + 1) w2.heap.size t wr) (fun t _ => 2 - (intOf t).toNat)
    case atStart =>
      refine ⟨0, by omega, rfl, ?_, ?_, (htt.alloc _).alloc _⟩
      · have := Blk.new (w2.alloc (Obj.cells #[Value.int IntKind.i64 0, Value.bool false, Value.slice none 0 0, Value.int IntKind.i64 0] 78)) 52 #[.pointer none, .pointer (some ⟨w2.heap.size, 0, none⟩)]
        simpa using this
      · exact (Blk.new w2 _ _).alloc _
    case round =>
      obtain ⟨k, hk, rfl, hB, hP, ht⟩ := hrel
      have hc0 := hB.cell 0
      have hc1 := hB.cell 1
      simp at hc0 hc1
      by_cases hk2 : k = 2
      · subst hk2
        go_wp2_with fail
        refine (known_any _).mono ?_
        rintro r w7 ⟨rfl, ht7⟩
        go_wp2_with fail
        go_ret
        exact ⟨rfl, ht.then0 ht7⟩
      · have hk1 : k < 2 := by omega
        obtain ⟨R, hR, hcR⟩ : ∃ R, NoRd wr R ∧ wr.cell? ⟨w2.heap.size + 1, k, none⟩ = some (.pointer R) := by
          rcases Nat.lt_or_ge k 1 with h | h
          · obtain rfl : k = 0 := by omega
            exact ⟨none, .inl rfl, hc0⟩
          · obtain rfl : k = 1 := by omega
            exact ⟨_, .inr ⟨_, rfl, hP⟩, hc1⟩
        have hki : (k : Int) < 2 := by omega
        clear hc0 hc1 hk2 hk
        go_wp2_with fail
        refine (no_fail R _ _ hR).mono ?_
        rintro r w' ⟨rfl, rfl⟩
        go_wp2_with fail
        refine (no_uint R _ hR).mono ?_
        rintro r u1 ⟨rfl, t1⟩
        have hR1 := hR.touch t1
        go_wp2_with fail
        refine (no_int R _ hR1).mono ?_
        rintro r u2 ⟨rfl, t2⟩
        have hR2 := hR1.touch t2
        have tt2 := t1.then0 t2
        clear t1 t2 hR1
        go_wp2_with fail
        refine (no_bool R _ hR2).mono ?_
        rintro r u3 ⟨rfl, t3⟩
        have hR3 := hR2.touch t3
        have tt3 := tt2.then0 t3
        clear t3 tt2 hR2
        go_wp2_with fail
        refine (no_count R _ _ hR3).mono ?_
        rintro r u4 ⟨rfl, t4⟩
        have hR4 := hR3.touch t4
        have tt4 := tt3.then0 t4
        clear t4 tt3 hR3
        go_wp2_with fail
        refine (no_bytes R _ _ hR4).mono ?_
        rintro r u5 ⟨rfl, t5⟩
        have hR5 := hR4.touch t5
        have tt5 := tt4.then0 t5
        clear t5 tt4 hR4
        go_wp2_with fail
        refine (no_string R _ _ hR5).mono ?_
        rintro r u6 ⟨rfl, t6⟩
        have hR6 := hR5.touch t6
        have tt6 := tt5.then0 t6
        clear t6 tt5 hR5
        go_wp2_with fail
        refine (no_ints R _ _ hR6).mono ?_
        rintro r u7 ⟨rfl, t7⟩
        have hR7 := hR6.touch t7
        have tt7 := tt6.then0 t7
        clear t7 tt6 hR6
        go_wp2_with fail
        refine (no_at R _ hR7).mono ?_
        rintro r u8 ⟨rfl, rfl⟩
        go_wp2_with fail
        refine (no_err R _ hR7).mono ?_
        rintro r u9 ⟨rfl, rfl⟩
        go_wp2_with fail
        refine (no_end R _ hR7).mono ?_
        rintro r u10 ⟨rfl, rfl⟩
        go_wp2_with fail
        go_roundw
        case rel => exact NoneRel.next hk1 hB hP ht tt7
        case measure => simp [intOf]; omega
theorem none_walk2 (n : Int) (v : Value) (l : List UInt8) (w : World) (_ : Fits n) (hv : Bytes w v l) :
    Calls Try.prog 10 #[.int .i64 n, v] w fun r w' => r = .returned (.bool true) ∧ Touch [] w w' := none_walk n v l w hv
end Go.Proofs.Ytpbknnkobhjjcaa
