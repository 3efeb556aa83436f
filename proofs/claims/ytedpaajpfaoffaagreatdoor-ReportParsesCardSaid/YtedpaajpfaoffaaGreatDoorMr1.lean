/- report.Result over the bytes of the chapter's example. -/
import Derived.Test.YtedpaajpfaoffaaGreatDoorMg5
import Derived.Test.YtedpaajpfaoffaaGreatDoorRdB
set_option linter.all false
set_option maxHeartbeats 4000000
set_option maxRecDepth 100000
namespace Go.Proofs.YtedpaajpfaoffaaGreatDoor
open Go.RowKit
theorem must_true (w : World) : Calls Tryz.prog 39 #[.bool true] w fun r w' => r = .returned (.tuple #[]) ∧ w' = w := by
 go_enter Tryz.func39, Tryz.ntmps39
 go_wp2_with fail
 go_end0
 exact ⟨rfl, rfl⟩
theorem limited_ok (low lim : Int) (v p : Nat) (inp : Value) (l : List UInt8) (s : Int × Nat) (w : World) (h : Rd w p inp l s.1 s.2) (hv : Blk w v 71 #[.pointer (some ⟨p, 0, none⟩)]) (hvp : v ≠ p) (n : Int) (a : Nat)
  (hr : rRead 0 (pUint l) s = (n, (0, a))) (hlo : low ≤ n) (hhi : n ≤ lim) :
  Calls Tryz.prog 41 #[.int .i64 low, .int .i64 lim, .pointer (some ⟨v, 0, none⟩)] w fun r w' => r = .returned (.int .i64 n) ∧ Rd w' p inp l 0 a ∧ Touch [p] w w' := by
 have H1 := Lib.hid (rd_uint p inp l s w h)
 rw [hr] at H1
 have H2 := Lib.hid (fun w1 (hw : Rd w1 p inp l 0 a) => rd_err p inp l 0 a w1 hw)
 have HM := Lib.hid must_true
 have c0 := hv.cell 0
 simp at c0
 have HV := Lib.hid hv
 clear hr h hv
 go_enter Tryz.func41, Tryz.ntmps41
 go_wp2_with fail
 refine H1.out.mono ?_
 rintro r w1 ⟨rfl, hR1, ht1⟩
 simp only at hR1
 have c1 := (HV.out.touch ht1 (by simpa using hvp)).cell 0
 simp at c1
 have HR1 := Lib.hid hR1
 clear hR1
 go_wp2_with fail
 refine (H2.out w1 HR1.out).mono ?_
 rintro r w2 ⟨rfl, rfl⟩
 go_wp2_with fail
 refine (HM.out _).mono ?_
 rintro r w3 ⟨rfl, rfl⟩
 go_wp2_with fail
 go_ret
 exact ⟨rfl, HR1.out, ht1⟩
def ex52 : List UInt8 := [1, 1, 5, 3, 3, 0, 2]
theorem ex0 : rRead 0 (pUint ex52) (0, 0) = (1, (0, 1)) := by decide
theorem ex1 : rRead 0 (pUint ex52) (0, 1) = (1, (0, 2)) := by decide
theorem ex2 : rRead 0 (pUint ex52) (0, 2) = (5, (0, 3)) := by decide
theorem ex3 : rRead 0 (pUint ex52) (0, 3) = (3, (0, 4)) := by decide
theorem ex4 : rRead 0 (pUint ex52) (0, 4) = (3, (0, 5)) := by decide
theorem ex5 : rRead 0 (pUint ex52) (0, 5) = (0, (0, 6)) := by decide
theorem ex6 : rRead 0 (pUint ex52) (0, 6) = (2, (0, 7)) := by decide
structure RN (w : World) : Prop where
 phases : Blk w 0 76 #[.string ⟨#[114, 101, 118, 101, 114, 115, 101]⟩, .string ⟨#[102, 111, 114, 119, 97, 114, 100]⟩, .string ⟨#[97, 115, 115, 105, 103, 110]⟩, .string ⟨#[115, 111, 108, 100]⟩, .string ⟨#[102, 97, 105, 108, 101, 100]⟩]
 kinds : Blk w 1 144 #[.string ⟨#[115, 116, 97, 121]⟩, .string ⟨#[109, 111, 118, 101]⟩, .string ⟨#[101, 120, 105, 116]⟩, .string ⟨#[102, 114, 101, 101, 122, 101]⟩]
 options : Blk w 2 144 #[.string ⟨#[111, 102, 102]⟩, .string ⟨#[108, 111, 119]⟩, .string ⟨#[104, 105, 103, 104]⟩, .string ⟨#[117, 104, 102]⟩]
 tab : Lib.TabIs Tryz.prog w "internal/strconv.uint64pow10" .u64 Lib.pow10Tab
theorem tabIs_touchL {w w' : World} {name : String} {k : IntKind} {zs : List Int} {L : List Nat} (h : Lib.TabIs Tryz.prog w name k zs) (t : Touch L w w') (hL : ∀ g, Tryz.prog.globalNamed name = some g → g ∉ L) : Lib.TabIs Tryz.prog w' name k zs := by
 unfold Lib.TabIs World.var? at h ⊢
 cases hg : Tryz.prog.globalNamed name with
 | none => rw [hg] at h; simp at h
 | some g =>
  have hn := hL g hg
  rw [hg] at h
  simp only [Option.bind_some] at h ⊢
  by_cases hlt : g < w.heap.size
  ·rw [t.block g hlt hn]; exact h
  ·rw [Array.getElem?_eq_none (by omega)] at h; simp at h
theorem g_pow : Tryz.prog.globalNamed "internal/strconv.uint64pow10" = some 5 := by kernel_rfl
theorem RN.touch {w w' : World} {L : List Nat} (h : RN w) (t : Touch L w w') (hL : ∀ g ∈ L, 6 ≤ g) : RN w' := by
 have key : ∀ g, g < 6 → g ∉ L := fun g hg hm => by have := hL g hm; omega
 refine ⟨h.phases.touch t (key _ (by decide)), h.kinds.touch t (key _ (by decide)), h.options.touch t (key _ (by decide)), tabIs_touchL h.tab t (fun g hg => ?_)⟩
 rw [g_pow] at hg
 cases hg
 exact key _ (by decide)
def limV (v : Nat) : Value := .func (.func 41) #[] #[.pointer (some ⟨v, 0, none⟩)]
theorem words_any (bk o cap : Nat) (xs : List (List UInt8)) (w : World) (hcell : ∀ (j : Nat) y, xs[j]? = some y → w.cell? ⟨bk, o + j, none⟩ = some (.string ⟨y.toArray⟩)) (hlt : bk < w.heap.size) (hn : xs.length ≤ 1000) (hc : xs.length ≤ cap)
  (hj : (Lib.join xs [32]).length ≤ 100000) : Calls Tryz.prog 48 #[.slice (some ⟨bk, o, none⟩) xs.length cap] w fun e w' => e = .returned (.string ⟨(Lib.join xs [32]).toArray⟩) ∧ Touch [] w w' := by
 have HJ := Lib.hid (join_any bk o cap xs [32] w hcell hlt hn hc hj)
 clear hcell hlt hn hc hj
 go_enter Tryz.func48, Tryz.ntmps48
 go_wp2_with fail
 refine HJ.out.mono ?_
 rintro r w1 ⟨rfl, ht⟩
 go_wp2_with fail
 go_ret
 exact ⟨rfl, ht⟩
theorem news_cell (w : World) (t : TypeId) (xs : List (List UInt8)) (j : Nat) (y : List UInt8) (hy : xs[j]? = some y) : (w.alloc (.cells (xs.map (fun y => Value.string ⟨y.toArray⟩)).toArray t)).cell? ⟨w.heap.size, 0 + j, none⟩ = some (.string ⟨y.toArray⟩) := by
 have := (Blk.new w t (xs.map (fun y => Value.string ⟨y.toArray⟩)).toArray).cell (0 + j)
 rw [this]
 simp [hy]
theorem ownLit (w : World) (m : Nat) (hm : w.heap.size = m) (e : TypeId) (size n : Nat) (xs : List Value) (hl : xs.length = n * size) (hn : n ≤ maxLen) : Own (w.alloc (.cells xs.toArray e)) e size (.slice (some ⟨m, 0, none⟩) n n) n xs := by
 subst hm
 exact ⟨hl, .inr ⟨w.heap.size, n, xs.toArray, rfl, Nat.zero_le _, heap_alloc_new w _, Nat.le_refl _, hn, by simpa using hl, by simp [← hl]⟩⟩
theorem itoa5 : Lib.itoa 5 = [53] := by
 unfold Lib.itoa
 rw [if_neg (by omega)]
 show Lib.decDigits 5 = _
 rw [dec_last (by omega)]
 rfl
theorem money0 : moneyL 0 = [48] := by
 unfold moneyL groupL
 rw [if_neg (by omega)]
 have : Lib.decDigits (0 : Int).toNat = [48] := by rw [dec_last (by simp)]; rfl
 rw [this]
 rfl
def ev52 : List UInt8 := [53, 32, 101, 120, 105, 116, 32, 117, 104, 102, 32, 48]
theorem elem_str : Elem Tryz.prog 39 9 1 16 := Elem.mk (z := .string ⟨#[]⟩) Tryz.underlying39 (by kernel_rfl) rfl (by decide)
end Go.Proofs.YtedpaajpfaoffaaGreatDoor
