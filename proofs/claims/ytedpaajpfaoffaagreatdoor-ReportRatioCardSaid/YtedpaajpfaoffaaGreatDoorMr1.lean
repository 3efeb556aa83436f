/- report.Result over the bytes of the chapter's example. -/
import Derived.Test.YtedpaajpfaoffaaGreatDoorMg5
import Derived.Test.YtedpaajpfaoffaaGreatDoorRdB
import Derived.Test.YtedpaajpfaoffaaGreatDoorTabS
namespace Go.Proofs.YtedpaajpfaoffaaGreatDoor
open Go.RowKit
set_option linter.unusedSimpArgs false

set_option maxRecDepth 100000 in
set_option maxHeartbeats 400000 in
theorem must_true (w : World) : Calls Tryz.prog 39 #[.bool true] w fun r w' => r = .returned (.tuple #[]) ∧ w' = w := by
  go_enter Tryz.func39, Tryz.ntmps39
  go_wp2_with fail
  go_end0
  exact ⟨rfl, rfl⟩

set_option maxRecDepth 100000 in
set_option maxHeartbeats 4000000 in

theorem limited_ok (low lim : Int) (v p : Nat) (inp : Value) (l : List UInt8) (s : Int × Nat) (w : World) (h : Rd w p inp l s.1 s.2) (hv : Blk w v 71 #[.pointer (some ⟨p, 0, none⟩)]) (hvp : v ≠ p) (n : Int) (a : Nat)
    (hr : rRead 0 (pUint l) s = (n, (0, a))) (hlo : low ≤ n) (hhi : n ≤ lim) :
    Calls Tryz.prog 41 #[.int .i64 low, .int .i64 lim, .pointer (some ⟨v, 0, none⟩)] w fun r w' => r = .returned (.int .i64 n) ∧ Rd w' p inp l 0 a ∧ Touch [p] w w' := by
  have H1 := Lib.hid (rd_uint p inp l s w h)
  rw [hr] at H1
  have H2 := Lib.hid (fun w1 (hw : Rd w1 p inp l 0 a) => rd_err p inp l 0 a w1 hw)
  have HM := Lib.hid must_true
  have c0 := hv.cell 0
  simp at c0
  have HV := Lib.hid hv
  clear hr h hv
  go_enter Tryz.func41, Tryz.ntmps41
  go_wp2_with fail
  refine H1.out.mono ?_
  rintro r w1 ⟨rfl, hR1, ht1⟩
  simp only at hR1
  have c1 := (HV.out.touch ht1 (by simpa using hvp)).cell 0
  simp at c1
  have HR1 := Lib.hid hR1
  clear hR1
  go_wp2_with fail
  refine (H2.out w1 HR1.out).mono ?_
  rintro r w2 ⟨rfl, rfl⟩
  go_wp2_with fail
  refine (HM.out _).mono ?_
  rintro r w3 ⟨rfl, rfl⟩
  go_wp2_with fail
  go_ret
  exact ⟨rfl, HR1.out, ht1⟩

def ex52 : List UInt8 := [1, 1, 5, 3, 3, 0, 2]

theorem ex0 : rRead 0 (pUint ex52) (0, 0) = (1, (0, 1)) := by decide

theorem ex1 : rRead 0 (pUint ex52) (0, 1) = (1, (0, 2)) := by decide

theorem ex2 : rRead 0 (pUint ex52) (0, 2) = (5, (0, 3)) := by decide

theorem ex3 : rRead 0 (pUint ex52) (0, 3) = (3, (0, 4)) := by decide

theorem ex4 : rRead 0 (pUint ex52) (0, 4) = (3, (0, 5)) := by decide

theorem ex5 : rRead 0 (pUint ex52) (0, 5) = (0, (0, 6)) := by decide

theorem ex6 : rRead 0 (pUint ex52) (0, 6) = (2, (0, 7)) := by decide

structure RN (w : World) : Prop where
  phases : Blk w 0 76 #[.string ⟨#[114, 101, 118, 101, 114, 115, 101]⟩, .string ⟨#[102, 111, 114, 119, 97, 114, 100]⟩, .string ⟨#[97, 115, 115, 105, 103, 110]⟩, .string ⟨#[115, 111, 108, 100]⟩, .string ⟨#[102, 97, 105, 108, 101, 100]⟩]
  kinds : Blk w 1 144 #[.string ⟨#[115, 116, 97, 121]⟩, .string ⟨#[109, 111, 118, 101]⟩, .string ⟨#[101, 120, 105, 116]⟩, .string ⟨#[102, 114, 101, 101, 122, 101]⟩]
  options : Blk w 2 144 #[.string ⟨#[111, 102, 102]⟩, .string ⟨#[108, 111, 119]⟩, .string ⟨#[104, 105, 103, 104]⟩, .string ⟨#[117, 104, 102]⟩]
  tab : Lib.TabIs Tryz.prog w "internal/strconv.uint64pow10" .u64 Lib.pow10Tab

theorem tabIs_touchL {w w' : World} {name : String} {k : IntKind} {zs : List Int} {L : List Nat} (h : Lib.TabIs Tryz.prog w name k zs) (t : Touch L w w') (hL : ∀ g, Tryz.prog.globalNamed name = some g → g ∉ L) : Lib.TabIs Tryz.prog w' name k zs := by
  unfold Lib.TabIs World.var? at h ⊢
  cases hg : Tryz.prog.globalNamed name with
  | none => rw [hg] at h; simp at h
  | some g =>
    have hn := hL g hg
    rw [hg] at h
    simp only [Option.bind_some] at h ⊢
    by_cases hlt : g < w.heap.size
    · rw [t.block g hlt hn]; exact h
    · rw [Array.getElem?_eq_none (by omega)] at h; simp at h

theorem g_pow : Tryz.prog.globalNamed "internal/strconv.uint64pow10" = some 5 := by kernel_rfl

theorem RN.touch {w w' : World} {L : List Nat} (h : RN w) (t : Touch L w w') (hL : ∀ g ∈ L, 6 ≤ g) : RN w' := by
  have key : ∀ g, g < 6 → g ∉ L := fun g hg hm => by have := hL g hm; omega
  refine ⟨h.phases.touch t (key _ (by decide)), h.kinds.touch t (key _ (by decide)), h.options.touch t (key _ (by decide)), tabIs_touchL h.tab t (fun g hg => ?_)⟩
  rw [g_pow] at hg
  cases hg
  exact key _ (by decide)

def limV (v : Nat) : Value := .func (.func 41) #[] #[.pointer (some ⟨v, 0, none⟩)]

set_option maxRecDepth 100000 in
set_option maxHeartbeats 4000000 in
theorem words_any (bk o cap : Nat) (xs : List (List UInt8)) (w : World) (hcell : ∀ (j : Nat) y, xs[j]? = some y → w.cell? ⟨bk, o + j, none⟩ = some (.string ⟨y.toArray⟩)) (hlt : bk < w.heap.size) (hn : xs.length ≤ 1000) (hc : xs.length ≤ cap)
    (hj : (Lib.join xs [32]).length ≤ 100000) : Calls Tryz.prog 48 #[.slice (some ⟨bk, o, none⟩) xs.length cap] w fun e w' => e = .returned (.string ⟨(Lib.join xs [32]).toArray⟩) ∧ Touch [] w w' := by
  have HJ := Lib.hid (join_any bk o cap xs [32] w hcell hlt hn hc hj)
  clear hcell hlt hn hc hj
  go_enter Tryz.func48, Tryz.ntmps48
  go_wp2_with fail
  refine HJ.out.mono ?_
  rintro r w1 ⟨rfl, ht⟩
  go_wp2_with fail
  go_ret
  exact ⟨rfl, ht⟩

theorem news_cell (w : World) (t : TypeId) (xs : List (List UInt8)) (j : Nat) (y : List UInt8) (hy : xs[j]? = some y) : (w.alloc (.cells (xs.map (fun y => Value.string ⟨y.toArray⟩)).toArray t)).cell? ⟨w.heap.size, 0 + j, none⟩ = some (.string ⟨y.toArray⟩) := by
  have := (Blk.new w t (xs.map (fun y => Value.string ⟨y.toArray⟩)).toArray).cell (0 + j)
  rw [this]
  simp [hy]

theorem ownLit (w : World) (m : Nat) (hm : w.heap.size = m) (e : TypeId) (size n : Nat) (xs : List Value) (hl : xs.length = n * size) (hn : n ≤ maxLen) : Own (w.alloc (.cells xs.toArray e)) e size (.slice (some ⟨m, 0, none⟩) n n) n xs := by
  subst hm
  exact ⟨hl, .inr ⟨w.heap.size, n, xs.toArray, rfl, Nat.zero_le _, heap_alloc_new w _, Nat.le_refl _, hn, by simpa using hl, by simp [← hl]⟩⟩

theorem itoa5 : Lib.itoa 5 = [53] := by
  unfold Lib.itoa
  rw [if_neg (by omega)]
  show Lib.decDigits 5 = _
  rw [dec_last (by omega)]
  rfl

theorem money0 : moneyL 0 = [48] := by
  unfold moneyL groupL
  rw [if_neg (by omega)]
  have : Lib.decDigits (0 : Int).toNat = [48] := by rw [dec_last (by simp)]; rfl
  rw [this]
  rfl

def ev52 : List UInt8 := [53, 32, 101, 120, 105, 116, 32, 117, 104, 102, 32, 48]

theorem elem_str : Elem Tryz.prog 39 9 1 16 := Elem.mk (z := .string ⟨#[]⟩) Tryz.underlying39 (by kernel_rfl) rfl (by decide)

set_option maxRecDepth 100000 in
set_option maxHeartbeats 8000000 in
theorem events_known (v p : Nat) (inp : Value) (w : World) (h : Rd w p inp ex52 0 1) (hv : Blk w v 71 #[.pointer (some ⟨p, 0, none⟩)]) (hvp : v ≠ p) (hn : RN w) (hpn : 6 ≤ p) :
    Calls Tryz.prog 44 #[.pointer (some ⟨p, 0, none⟩), limV v] w fun r w' => ∃ u, r = .returned u ∧ Own w' 9 1 u 1 [.string ⟨ev52.toArray⟩] ∧ (∀ g ∈ blk u, w.heap.size ≤ g) ∧ Rd w' p inp ex52 0 6 ∧ Touch [p] w w' := by
  have hmf := make_func
  unfold limV
  have HL := Lib.hid (fun (low lim : Int) (s : Int × Nat) (W : World) (t : Touch [p] w W) (hw : Rd W p inp ex52 s.1 s.2) => limited_ok low lim v p inp ex52 s W hw (hv.touch t (by simpa using hvp)) hvp)
  have HN := Lib.hid (fun (W : World) (t : Touch [p] w W) => hn.touch t (by simpa using hpn))
  have HR := Lib.hid h
  clear hn h
  go_enter Tryz.func44, Tryz.ntmps44
  go_wp2_with fail
  refine (HL.out 0 512 (0, 1) w (Touch.refl _ _) HR.out 1 2 ex1 (by omega) (by omega)).mono ?_
  rintro r w1 ⟨rfl, hR1, ht1⟩
  have HR1 := Lib.hid hR1
  clear hR1
  go_wp2_with fail
  go_loopw [5, 11] (fun tl ti wr => (ti = .int .i64 0 ∧ tl = .slice none 0 0 ∧ Rd wr p inp ex52 0 2 ∧ Touch [p] w wr) ∨ (ti = .int .i64 1 ∧ Own wr 9 1 tl 1 [.string ⟨ev52.toArray⟩] ∧ (∀ g ∈ blk tl, w.heap.size ≤ g) ∧ Rd wr p inp ex52 0 6 ∧ Touch [p] w wr)) (fun _ ti _ => 1 - (intOf ti).toNat)
  case atStart => exact .inl ⟨rfl, rfl, HR1.out, ht1⟩
  case round =>
    clear ht1 HR1
    rcases hrel with ⟨rfl, rfl, hR, ht⟩ | ⟨rfl, ho, hf, hR, ht⟩
    · have HR2 := Lib.hid hR
      clear hR
      go_wp2_with fail
      refine (HL.out _ _ (0, 2) _ ht HR2.out 5 3 ex2 (by omega) (by omega)).mono ?_
      rintro r w2 ⟨rfl, hR3, ht2⟩
      have HR3 := Lib.hid hR3
      have ht3 := ht.trans ht2
      clear hR3 ht2
      go_wp2_with fail
      refine (itoa_any 5 w2 (by omega) (by omega) (HN.out w2 ht3).tab).mono ?_
      rintro r w3 ⟨rfl, ht4⟩
      rw [itoa5]
      have ht5 := ht3.then0 ht4
      have HR4 := Lib.hid (HR3.out.touch ht4 (by simp) (fun _ _ => by simp))
      clear ht4
      go_wp2_with fail
      refine (HL.out _ _ (0, 3) _ ht5 HR4.out 3 4 ex3 (by omega) (by omega)).mono ?_
      rintro r w4 ⟨rfl, hR5, ht6⟩
      have HR5 := Lib.hid hR5
      have ht7 := ht5.trans ht6
      have ck := (HN.out w4 ht7).kinds.cell 2
      simp at ck
      clear hR5 ht6
      go_wp2_with fail
      refine (HL.out _ _ (0, 4) _ ht7 HR5.out 3 5 ex4 (by omega) (by omega)).mono ?_
      rintro r w5 ⟨rfl, hR6, ht8⟩
      have HR6 := Lib.hid hR6
      have ht9 := ht7.trans ht8
      have co := (HN.out w5 ht9).options.cell 3
      simp at co
      clear hR6 ht8 ck
      go_wp2_with fail
      refine (HL.out _ _ (0, 5) _ ht9 HR6.out 0 6 ex5 (by omega) (by omega)).mono ?_
      rintro r w6 ⟨rfl, hR7, ht10⟩
      have HR7 := Lib.hid hR7
      have ht11 := ht9.trans ht10
      clear hR7 ht10 co
      go_wp2_with fail
      refine (money_any 0 w6 (by omega) (by omega) (HN.out w6 ht11).tab).mono ?_
      rintro r w7 ⟨rfl, ht12⟩
      rw [money0]
      have ht13 := ht11.then0 ht12
      have HR8 := Lib.hid (HR7.out.touch ht12 (by simp) (fun _ _ => by simp))
      clear ht12
      go_wp2_with fail
      refine (words_any w7.heap.size 0 4 [[53], [101, 120, 105, 116], [117, 104, 102], [48]] _ (fun j y hy => news_cell w7 9 [[53], [101, 120, 105, 116], [117, 104, 102], [48]] j y hy) (by simp) (by simp) (by simp) (by decide)).mono ?_
      rintro r w8 ⟨rfl, ht14⟩
      have hjoin : Lib.join [[53], [101, 120, 105, 116], [117, 104, 102], [48]] [32] = ev52 := by decide
      rw [hjoin]
      have ht15 : Touch [p] w w8 := (ht13.alloc _).then0 ht14
      have HR9 := Lib.hid ((HR8.out.touch ((Touch.refl [] w7).alloc _) (by simp) (fun _ _ => by simp)).touch ht14 (by simp) (fun _ _ => by simp))
      clear ht14
      go_wp2_with (at_builtin; go_must (refine app_new elem_str (Own.nil _ 9 1) [.string ⟨ev52.toArray⟩] 1 1 (by omega) (by unfold maxLen; omega) ?_); intro v2 w9 ho2 ht16 hf2; obtain ⟨A2, cap2, rfl⟩ := Own.form ho2)
      go_roundw
      case rel =>
        refine .inr ⟨by go_num, ho2, fun g hg => Nat.le_trans ht15.size (hf2.none_ g hg), HR9.out.touch ht16 (by simp [blk]) (fun _ _ => by simp [blk]), ht15.then0 ht16⟩
      case measure => simp [intOf]
    · have HR2 := Lib.hid hR
      obtain ⟨A, cap, rfl⟩ := ho.form
      have HO := Lib.hid ho
      clear hR ho
      go_wp2_with fail
      go_ret
      exact ⟨_, rfl, HO.out, hf, HR2.out, ht⟩

end Go.Proofs.YtedpaajpfaoffaaGreatDoor
