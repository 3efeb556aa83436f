/- Plain facts on group encodings: no program in sight. -/
import Derived.WalkKit
import Derived.Test.YtphpkalbbmlgoaaGreatDoorProg
import Derived.Test.YtphpkalbbmlgoaaGreatDoorBase
import Derived.IntWalk
namespace Go.Proofs.YtphpkalbbmlgoaaGreatDoor

def B (x : UInt8) : Value := .int .u8 (x.toNat : Int)

abbrev WS := Int × List UInt8

def wErr (s : WS) (k : Int) : WS := if s.1 = 0 then (k, s.2) else s

end Go.Proofs.YtphpkalbbmlgoaaGreatDoor

namespace Go.Proofs.YtphpkalbbmlgoaaGreatDoor
open Go.RowKit

def Row (w : World) (v : Value) (bs : List UInt8) : Prop := Own w 5 1 v bs.length (bs.map B)

theorem Row.snoc {w : World} {v : Value} {bs : List UInt8} {y : UInt8} (h : Own w 5 1 v (bs.length + 1) (bs.map B ++ [B y])) : Row w v (bs ++ [y]) := by
  unfold Row
  simpa using h

theorem Row.nil (w : World) : Row w (.slice none 0 0) [] := Own.nil w _ _

def Wr (w : World) (p : Nat) (out : Value) (s : WS) : Prop :=
  Blk w p 99 #[.int .i64 s.1, out] ∧ (s.1 = 0 → Row w out s.2 ∧ s.2.length ≤ 65536)

def WrDone (w : World) (p : Nat) (out : Value) (s' : WS) (r : Ending) (w' : World) : Prop :=
  r = .returned (.tuple #[]) ∧ ∃ out', Wr w' p out' s' ∧ Touch (p :: blk out) w w' ∧ From w out out'

theorem Wr.err {w : World} {p : Nat} {out : Value} {s : WS} (h : Wr w p out s) (h0 : s.1 = 0) (k : Int) (hk : k ≠ 0) : WrDone w p out (wErr s k) (.returned (.tuple #[])) (w.setCell ⟨p, 0, none⟩ (.int .i64 k)) := by
  refine ⟨rfl, out, ⟨?_, fun h1 => ?_⟩, (Touch.refl _ _).setCell (.inl (by simp)) _, From.refl _ _⟩
  · have := h.1.set_ 0 (.int .i64 k)
    unfold wErr; rw [if_pos h0]
    simpa using this
  · unfold wErr at h1; rw [if_pos h0] at h1
    exact absurd h1 hk

theorem note_first (p : Nat) (t : TypeId) (cs : Array Value) (k : Int) (w : World) (hb : Blk w p t cs) (h0 : cs[0]? = some (.int .i64 0)) :
    Calls Tryz.prog 55 #[.pointer (some ⟨p, 0, none⟩), .int .i64 k] w fun r w' => r = .returned (.tuple #[]) ∧ w.setCell ⟨p, 0, none⟩ (.int .i64 k) = w' := by
  have hc := hb.cell 0
  rw [h0] at hc
  have hf := hb.frozen 0
  clear h0
  go_enter Tryz.func55, Tryz.ntmps55
  go_wp2
  go_end0
  exact ⟨rfl, rfl⟩

end Go.Proofs.YtphpkalbbmlgoaaGreatDoor

namespace Go.Proofs.YtphpkalbbmlgoaaGreatDoor
open Go.RowKit

theorem Wr.row {w : World} {p : Nat} {out : Value} {bs : List UInt8} (h : Wr w p out (0, bs)) : Row w out bs ∧ bs.length ≤ 65536 := h.2 rfl

def Bytes (w : World) (v : Value) (l : List UInt8) : Prop := Reads w 1 v l.length (l.map B)

theorem Row.bytes {w : World} {v : Value} {l : List UInt8} (h : Row w v l) : Bytes w v l := Own.reads h

end Go.Proofs.YtphpkalbbmlgoaaGreatDoor

namespace Go.Proofs.YtphpkalbbmlgoaaGreatDoor
open Go.RowKit

def EndDone (w : World) (s : WS) (r : Ending) (w' : World) : Prop :=
  ∃ v, r = .returned (.tuple #[v, .int .i64 s.1]) ∧ Row w' v (if s.1 = 0 then s.2 else []) ∧ Touch [] w w' ∧ ∀ g ∈ blk v, w.heap.size ≤ g

end Go.Proofs.YtphpkalbbmlgoaaGreatDoor

namespace Go.Proofs.YtphpkalbbmlgoaaGreatDoor
open Go.RowKit

theorem Wr.new (w : World) : Wr (w.alloc (.cells #[.int .i64 0, .slice none 0 0] 99)) w.heap.size (.slice none 0 0) (0, []) :=
  ⟨Blk.new _ _ _, fun _ => ⟨Row.nil _, by simp⟩⟩

theorem EndDone.later {w0 w : World} {s : WS} {r : Ending} {w' : World} (h : EndDone w s r w') (ht : Touch [] w0 w) : EndDone w0 s r w' := by
  obtain ⟨v, h1, h2, h3, h4⟩ := h
  exact ⟨v, h1, h2, ht.then0 h3, fun g hg => Nat.le_trans ht.size (h4 g hg)⟩

end Go.Proofs.YtphpkalbbmlgoaaGreatDoor
