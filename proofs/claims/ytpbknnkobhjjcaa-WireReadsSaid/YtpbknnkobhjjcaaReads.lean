/- The law WireReads: its walk. -/
import Derived.Test.YtpbknnkobhjjcaaReads0
import Derived.Deep.DeepCutAuto
import Derived.Deep.CutRange
import Derived.Deep.CutBlock
namespace Go.Proofs.Ytpbknnkobhjjcaa
open Go.RowKit
set_option linter.unusedSimpArgs false

/-- The copy whose bytes are turned behind the reader's back. -/
def TurnRel (w : World) (v : Value) (n : Nat) (ti : Value) (wr : World) : Prop :=
  ∃ (k : Nat) (ys : List UInt8), k ≤ n ∧ ti = .int .i64 k ∧ ys.length = n ∧ Row wr v ys ∧ Touch (blk v) w wr
theorem Row.at {w : World} {v : Value} {ys : List UInt8} {k : Nat} (h : Row w v ys) (hk : k < ys.length) : ∃ g cap, v = .slice (some ⟨g, 0, none⟩) ys.length cap ∧ w.cell? ⟨g, k, none⟩ = some (B ys[k]) ∧ w.frozen? ⟨g, k, none⟩ = false ∧
    ∀ y, Row (w.setCell ⟨g, k, none⟩ (B y)) v (ys.set k y) ∧ Touch (blk v) w (w.setCell ⟨g, k, none⟩ (B y)) := by
  rcases h.2 with ⟨rfl, h0⟩ | ⟨g, cap, cur, rfl, -⟩
  · omega
  · refine ⟨g, cap, rfl, ?_, World.ownsRow.frozenAt h k, fun y => ⟨?_, (Touch.refl _ _).setCell (.inl (by simp [blk])) _⟩⟩
    · have := World.ownsRow.cells h (g := g) rfl k (B ys[k]) (by simp [hk])
      rwa [add_lit, Nat.zero_add] at this
    · have := (World.ownsRow.stored h k (B y)).1
      unfold Row
      rw [List.length_set, List.map_set]
      exact this
theorem byte_up (x : Nat) : ((x : Int) + 1) % 256 = (((UInt8.ofNat x) + 1).toNat : Int) := by
  rw [UInt8.toNat_add, UInt8.toNat_ofNat]
  simp
/-- The loop over the calls. -/
def ActRel (w : World) (l : List UInt8) (p : Nat) (inp : Value) (n : Nat) (ta tf ti : Value) (wr : World) : Prop :=
  ∃ (k : Nat) (s : Int × Nat), k ≤ n ∧ ti = .int .i64 k ∧ ta = .int .i64 s.2 ∧ tf = .int .i64 s.1 ∧ Rd wr p inp l s.1 s.2 ∧ Touch [] w wr
theorem RowI.ints' {w : World} {v : Value} {l : List Int} (h : RowI w v l) (hf : ∀ n ∈ l, Fits n) : Ints w v l := ⟨Own.reads h, hf⟩
theorem run_slice_bytes (w : World) (A : Option Addr) (len cap a : Nat) (h : a ≤ len) : (Instr.slice 28 (.slice A len cap) (some (.int .i64 (a : Int))) none none).run Try.prog w = .ok (sliced A a len cap 1) w := by
  rw [run_slice_l (P := Try.prog) w 28 A len cap (by kernel_rfl) .i64 (a : Int) (by omega) (by omega)]
  have e : (sizeOf (Try.prog.elem 28)).run Try.prog w = .ok 1 w := by kernel_rfl
  rw [e]
  rfl
set_option maxRecDepth 100000 in
set_option maxHeartbeats 8000000 in
theorem reads_walk (v : Value) (l : List UInt8) (u : Value) (xs : List Ax) (w : World) (hv : Bytes w v l) (hu : Acts w u xs) :
    Calls Try.prog 9 #[v, u] w fun r w' => r = .returned (.bool true) ∧ Touch [] w w' := by
  obtain ⟨A, cap, rfl, hcap0, hmax0, -⟩ := id hv
  unfold maxLen at hmax0
  obtain ⟨A', cap', rfl, -⟩ := id hu.1
  by_cases hl : 300 < l.length
  · have hl' : (300 : Int) < (l.length : Int) := by omega
    go_enter Try.func9, Try.ntmps9
    go_wp2_with fail
    refine (known_any _).mono ?_
    rintro r w7 ⟨rfl, ht7⟩
    go_wp2_with fail
    go_ret
    exact ⟨rfl, ht7⟩
  have hl' : ¬ (300 : Int) < (l.length : Int) := by omega
  by_cases hx : 12 < xs.length
  · have hx' : (12 : Int) < (xs.length : Int) := by omega
    go_enter Try.func9, Try.ntmps9
    go_wp2_with fail
    refine (known_any _).mono ?_
    rintro r w7 ⟨rfl, ht7⟩
    go_wp2_with fail
    go_ret
    exact ⟨rfl, ht7⟩
  have hx' : ¬ (12 : Int) < (xs.length : Int) := by omega
  have dl : decide ((300 : Int) < (l.length : Int)) = false := by simp; omega
  have dx : decide ((12 : Int) < (xs.length : Int)) = false := by simp; omega
  go_enter Try.func9, Try.ntmps9
  go_wp2_with (at_builtin; go_must (refine app_reads elem_u8 (Own.lit w _ 1 0 [] rfl (by simp [maxLen])) (Reads.touch0 hv ((Touch.refl [] w).alloc _)) (B_ones l) (by simp; omega) (by unfold maxLen; simp; omega) ?_); intro v2 w2 ho2 ht2 hf2; obtain ⟨A2, cap2, rfl⟩ := Own.form ho2)
  have hrow2 : Row w2 (.slice A2 l.length cap2) l := by
    unfold Row
    simpa using ho2
  have htt2 : Touch [] w w2 := by
    refine ((Touch.refl [] w).alloc _).step ht2 (fun m hm => .inr ?_)
    have : m = w.heap.size := by simpa [blk] using hm
    omega
  have hnew2 : ∀ g ∈ blk (.slice A2 l.length cap2), w.heap.size ≤ g := fun g hg => by
    rcases hf2 g (by simpa using hg) with h1 | h1
    · have : g = w.heap.size := by simpa [blk] using h1
      omega
    · simp at h1
      omega
  have HNEW2 := Lib.hid hnew2
  clear ho2 ht2 hf2 hnew2
  refine (read_any _ _ _ hrow2.bytes (by omega)).mono ?_
  rintro r w3 ⟨p3, in3, rfl, hp3, hn3, hr3, ht3⟩
  have HN3 := Lib.hid hn3
  clear hn3
  have hrow3 : Row w3 (.slice A2 l.length cap2) l := Own.touch0 hrow2 ht3
  have hst : TurnRel w3 (.slice A2 l.length cap2) l.length (.int .i64 0) w3 := ⟨0, l, by omega, rfl, rfl, hrow3, Touch.refl _ _⟩
  have hbl2 := Own.lt hrow2
  have HBL2 := Lib.hid hbl2
  have hcap2 : l.length ≤ cap2 ∧ cap2 ≤ 9223372036854775807 := by
    obtain ⟨A5, cap5, e, h1, h2, -⟩ := Own.reads hrow2
    injection e with e1 e2 e3
    subst e3
    unfold maxLen at h2
    exact ⟨h1, by omega⟩
  obtain ⟨hcap2a, hcap2b⟩ := hcap2
  clear hbl2 hrow2 hrow3
  go_wp2_with fail
  go_loopw [7] (fun ti wr => TurnRel w3 (.slice A2 l.length cap2) l.length ti wr) (fun ti _ => l.length - (intOf ti).toNat)
  case atStart => exact hst
  case round =>
    clear hst
    obtain ⟨k, ys, hk, rfl, hyl, hrow, htu⟩ := hrel
    by_cases hlt : k < l.length
    · have hlt' : (k : Int) < (l.length : Int) := by omega
      obtain ⟨g, cap4, e, hc, hfz, hset⟩ := hrow.at (k := k) (by omega)
      injection e with e1 e2 e3
      subst e1 e3
      have hb : ys[k].toNat < 256 := UInt8.toNat_lt _
      have HUP := Lib.hid (byte_up ys[k].toNat)
      have HSET := Lib.hid (hset (UInt8.ofNat ys[k].toNat + 1))
      have HYL := Lib.hid hyl
      unfold B at hc HSET
      generalize ys[k].toNat = by0 at *
      clear hset hyl e2
      go_wp2_with fail
      rw [HUP.out]
      go_roundw
      case rel => exact ⟨k + 1, ys.set k _, by omega, by go_num, by rw [List.length_set]; exact HYL.out, HSET.out.1, htu.trans HSET.out.2⟩
      case measure => simp [intOf]; omega
    have hlt' : ¬ (k : Int) < (l.length : Int) := by omega
    have hR : Rd wr p3 in3 l 0 0 := hr3.touch htu (fun hm => by have := HBL2.out _ hm; omega) (fun b hb hm => by have h1 := HBL2.out _ hm; have h2 := HN3.out b hb; omega)
    have htw : Touch [] w wr := (htt2.then0 ht3).step htu (fun m hm => .inr (HNEW2.out m hm))
    have hst : ActRel w l p3 in3 xs.length (.int .i64 0) (.int .i64 0) (.int .i64 0) wr := ⟨0, (0, 0), by omega, rfl, rfl, rfl, hR, htw⟩
    obtain ⟨ww, rfl⟩ : ∃ ww : World, ww = wr := ⟨_, rfl⟩
    have hp0 : w.heap.size ≤ p3 := by have := htt2.size; omega
    clear hrow htu hR htw hr3 ht3 HBL2 HN3 HNEW2 htt2 hp3 hcap2a hcap2b hyl hlt hk
    go_wp2_with fail
    go_loopw [8, 9, 10] (fun ta tf ti wr => ActRel w l p3 in3 xs.length ta tf ti wr) (fun _ _ ti _ => xs.length - (intOf ti).toNat)
    case atStart => exact hst
    case round =>
      clear hst
      obtain ⟨k, s, hk, rfl, rfl, rfl, hrd, htw⟩ := hrel
      by_cases hlt : k < xs.length
      case neg =>
        have hlt' : ¬ (k : Int) < (xs.length : Int) := by omega
        go_wp2_with fail
        refine (known_any _).mono ?_
        rintro r w7 ⟨rfl, ht7⟩
        go_wp2_with fail
        go_ret
        exact ⟨rfl, htw.then0 ht7⟩
      have hlt' : (k : Int) < (xs.length : Int) := by omega
      have hur := hu.touch0 htw
      obtain ⟨b0, off, cap3, e, hb0, hc1, hc2⟩ := hu.addr (by omega)
      injection e with e1 _ e2
      subst e1 e2
      obtain ⟨c0, c1⟩ := hur.elem hlt rfl
      have hkb := UInt8.toNat_lt xs[k].kind
      unfold B at c0
      unfold I at c1
      have hfl := hu.2 _ (List.getElem_mem hlt)
      generalize xs[k].kind.toNat = kk at *
      generalize xs[k].limit = lim at *
      clear hur
      have hb1 : b0 < wr.heap.size := by have := htw.size; omega
      obtain ⟨W, hW⟩ : ∃ W, W = wr.alloc (.cells #[.int .u8 kk, .int .i64 lim] 62) := ⟨_, rfl⟩
      have htW : Touch [] wr W := by rw [hW]; exact (Touch.refl [] wr).alloc _
      have HPA : Hid (Blk W wr.heap.size 62 #[.int .u8 kk, .int .i64 lim]) := Lib.hid (by rw [hW]; exact Blk.new _ _ _)
      have HPN : Hid (wr.heap.size < W.heap.size) := Lib.hid HPA.out.lt
      go_upto_if 62 with fail
      rw [← hW]
      have HW := Lib.hid hW
      have HRD := Lib.hid hrd
      have hal := hrd.2.2.2.1
      clear hW hrd c0 c1
      go_cut [13, 14, 15, 16, 17, 18] from 50 to 235 (fun s13 s14 s15 s16 s17 s18 wx => RefRel l (kk % 8) lim s W s13 s14 s15 s16 s17 s18 wx)
      case first =>
        by_cases hs0 : s.1 = 0
        case neg =>
          as_aux_lemma =>
          have hs1 : (s.1 == 0) = false := by simpa using hs0
          have HS0 := Lib.hid hs0
          clear hs0
          go_wp2_with fail
          go_meet
          exact RefRel.zero _ _ _ _ _ HS0.out
        obtain ⟨e0, a⟩ := s
        simp only at hs0 hal
        subst hs0
        have hvW : Bytes W (.slice A l.length cap) l := Reads.touch0 (Reads.touch0 hv htw) htW
        have HBY : Hid (Bytes W (sliced A a l.length cap 1) (l.drop a)) := Lib.hid (by
          have h1 := Reads.part hvW a l.length (by omega) (by omega)
          rw [List.take_of_length_le (by simp)] at h1
          unfold Bytes
          rw [List.map_drop, List.length_drop]
          exact h1)
        have hsl : ∀ w, (Instr.slice 28 (.slice A l.length cap) (some (.int .i64 (a : Int))) none none).run Try.prog w = .ok (sliced A a l.length cap 1) w := fun w => run_slice_bytes w A l.length cap a (by omega)
        have HSL := Lib.hid hsl
        clear hsl hvW
        generalize sliced A a l.length cap 1 = V at *
        obtain ⟨AV, capV, hVf, -⟩ := id HBY.out
        subst hVf
        have hsl := HSL.out
        have c0 := HPA.out.cell 0
        have c1 := HPA.out.cell 1
        simp at c0 c1
        have hdl : (l.drop a).length ≤ 100000 := by simp; omega
        rw [List.length_drop] at HBY
        have HBYD : Hid (Bytes W.drew (.slice AV (l.length - a) capV) (l.drop a)) := Lib.hid (Reads.touch0 HBY.out (Touch.refl _ _).drew)
        have hcd : Hid (W.drew.cell? ⟨wr.heap.size, 1, none⟩ = some (.int .i64 lim)) := Lib.hid (by have := HPA.out.cell 1; simpa using this)
        clear hcap0 hmax0 HSL
        by_cases hq : kk % 8 = 0
        · as_aux_lemma =>
          have q0 : (((kk : Int) % 8) == 0) = true := by simp; omega
          have HQ := Lib.hid hq
          clear hq
          have HC : pUint (l.drop a) 0 = pUint (l.drop a) 0 := rfl
          clear HC
          go_wp2_with fail
          have HU := Lib.hid (uint6_any (.slice AV (l.length - a) capV) (l.drop a) W HBY.out hdl)
          cases hp : pUint (l.drop a) 0 with
          | error k1 =>
            rw [hp] at HU
            unfold R6Post iv at HU
            simp only at HU
            have HE := Lib.hid (rRead_no (z := 0) (res := pUint l) (a := a) (by rw [pUint_sh l a, hp]; rfl))
            have HK := Lib.hid (pUint_err hp)
            clear hp
            refine HU.out.mono ?_
            rintro r w' ⟨rfl, rfl⟩
            dsimp only
            go_wp2_with fail
            go_meet
            exact RefRel.err0 _ _ _ _ _ (by rw [HQ.out]; simp only [actSt]; simp; rw [HE.out]) HK.out (Touch.refl _ _)
          | ok x =>
            obtain ⟨x1, x2⟩ := x
            rw [hp] at HU
            unfold R6Post iv at HU
            simp only at HU
            have HE := Lib.hid (rRead_at (z := 0) (res := pUint l) (a := a) (x := x1) (b := a + x2) (by rw [pUint_sh l a, hp]; rfl))
            clear hp
            refine HU.out.mono ?_
            rintro r w' ⟨rfl, rfl⟩
            dsimp only
            go_wp2_with fail
            go_meet
            exact RefRel.ok0 (by rw [HQ.out]; simp only [actSt]; simp; rw [HE.out]) (by rw [HQ.out]; exact ⟨fun _ => by rw [HE.out], nofun, nofun, nofun, nofun, nofun, nofun⟩) (Touch.refl _ _)
        by_cases hq : kk % 8 = 1
        · as_aux_lemma =>
          have q0 : (((kk : Int) % 8) == 0) = false := by simp; omega
          have q1 : (((kk : Int) % 8) == 1) = true := by simp; omega
          have HQ := Lib.hid hq
          clear hq
          have HC : pInt (l.drop a) 0 = pInt (l.drop a) 0 := rfl
          clear HC
          go_wp2_with fail
          have HU := Lib.hid (int6_any (.slice AV (l.length - a) capV) (l.drop a) W HBY.out hdl)
          cases hp : pInt (l.drop a) 0 with
          | error k1 =>
            rw [hp] at HU
            unfold R6Post iv at HU
            simp only at HU
            have HE := Lib.hid (rRead_no (z := 0) (res := pInt l) (a := a) (by rw [pInt_sh l a, hp]; rfl))
            have HK := Lib.hid (pInt_err hp)
            clear hp
            refine HU.out.mono ?_
            rintro r w' ⟨rfl, rfl⟩
            dsimp only
            go_wp2_with fail
            go_meet
            exact RefRel.err0 _ _ _ _ _ (by rw [HQ.out]; simp only [actSt]; simp; rw [HE.out]) HK.out (Touch.refl _ _)
          | ok x =>
            obtain ⟨x1, x2⟩ := x
            rw [hp] at HU
            unfold R6Post iv at HU
            simp only at HU
            have HE := Lib.hid (rRead_at (z := 0) (res := pInt l) (a := a) (x := x1) (b := a + x2) (by rw [pInt_sh l a, hp]; rfl))
            clear hp
            refine HU.out.mono ?_
            rintro r w' ⟨rfl, rfl⟩
            dsimp only
            go_wp2_with fail
            go_meet
            exact RefRel.ok0 (by rw [HQ.out]; simp only [actSt]; simp; rw [HE.out]) (by rw [HQ.out]; exact ⟨nofun, fun _ => by rw [HE.out], nofun, nofun, nofun, nofun, nofun⟩) (Touch.refl _ _)
        by_cases hq : kk % 8 = 2
        · as_aux_lemma =>
          have q0 : (((kk : Int) % 8) == 0) = false := by simp; omega
          have q1 : (((kk : Int) % 8) == 1) = false := by simp; omega
          have q2 : (((kk : Int) % 8) == 2) = true := by simp; omega
          have HQ := Lib.hid hq
          clear hq
          have HC : pBool (l.drop a) 0 = pBool (l.drop a) 0 := rfl
          clear HC
          go_wp2_with fail
          have HU := Lib.hid (bool6_any (.slice AV (l.length - a) capV) (l.drop a) W HBY.out)
          cases hp : pBool (l.drop a) 0 with
          | error k1 =>
            rw [hp] at HU
            unfold R6Post at HU
            simp only at HU
            have HE := Lib.hid (rRead_no (z := false) (res := pBool l) (a := a) (by rw [pBool_sh l a, hp]; rfl))
            have HK := Lib.hid (pBool_err hp)
            clear hp
            refine HU.out.mono ?_
            rintro r w' ⟨rfl, rfl⟩
            dsimp only
            go_wp2_with fail
            go_meet
            exact RefRel.err0 _ _ _ _ _ (by rw [HQ.out]; simp only [actSt]; simp; rw [HE.out]) HK.out (Touch.refl _ _)
          | ok x =>
            obtain ⟨x1, x2⟩ := x
            rw [hp] at HU
            unfold R6Post at HU
            simp only at HU
            have HE := Lib.hid (rRead_at (z := false) (res := pBool l) (a := a) (x := x1) (b := a + x2) (by rw [pBool_sh l a, hp]; rfl))
            clear hp
            refine HU.out.mono ?_
            rintro r w' ⟨rfl, rfl⟩
            dsimp only
            go_wp2_with fail
            go_meet
            exact RefRel.ok0 (by rw [HQ.out]; simp only [actSt]; simp; rw [HE.out]) (by rw [HQ.out]; exact ⟨nofun, nofun, fun _ => by rw [HE.out], nofun, nofun, nofun, nofun⟩) (Touch.refl _ _)
        by_cases hq : kk % 8 = 3
        · as_aux_lemma =>
          have q0 : (((kk : Int) % 8) == 0) = false := by simp; omega
          have q1 : (((kk : Int) % 8) == 1) = false := by simp; omega
          have q2 : (((kk : Int) % 8) == 2) = false := by simp; omega
          have q3 : (((kk : Int) % 8) == 3) = true := by simp; omega
          have HQ := Lib.hid hq
          clear hq
          have HC : pCount (l.drop a) lim 0 = pCount (l.drop a) lim 0 := rfl
          clear HC
          have HU := Lib.hid (count6_any (.slice AV (l.length - a) capV) (l.drop a) lim W.drew HBYD.out hdl)
          cases hp : pCount (l.drop a) lim 0 with
          | error k1 =>
            rw [hp] at HU
            have HE := Lib.hid (rRead_no (z := 0) (res := pCount l lim) (a := a) (by rw [pCount_sh l lim a, hp]; rfl))
            have HK := Lib.hid (pCount_err hp)
            clear hp
            unfold R6Post iv at HU
            simp only at HU
            go_wp2_with fail
            go_region_held3 (fun W' => W'.cell? ⟨wr.heap.size, 1, none⟩ = some (.int .i64 lim)) (exact hcd.out) (first | (go_at_call 47; refine HU.out.mono ?_; rintro r w6 ⟨rfl, rfl⟩; dsimp only))
            all_goals
              go_wp2_with fail
              go_meet
              exact RefRel.err0 _ _ _ _ _ (by rw [HQ.out]; simp only [actSt]; simp; rw [HE.out]) HK.out (Touch.refl [] W).drew
          | ok x =>
            obtain ⟨x1, x2⟩ := x
            rw [hp] at HU
            have HE := Lib.hid (rRead_at (z := 0) (res := pCount l lim) (a := a) (x := x1) (b := a + x2) (by rw [pCount_sh l lim a, hp]; rfl))
            clear hp
            unfold R6Post iv at HU
            simp only at HU
            go_wp2_with fail
            go_region_held3 (fun W' => W'.cell? ⟨wr.heap.size, 1, none⟩ = some (.int .i64 lim)) (exact hcd.out) (first | (go_at_call 47; refine HU.out.mono ?_; rintro r w6 ⟨rfl, rfl⟩; dsimp only))
            all_goals
              go_wp2_with fail
              go_meet
              exact RefRel.ok0 (by rw [HQ.out]; simp only [actSt]; simp; rw [HE.out]) (by rw [HQ.out]; exact ⟨nofun, nofun, nofun, fun _ => by rw [HE.out], nofun, nofun, nofun⟩) (Touch.refl [] W).drew
        by_cases hq : kk % 8 = 4
        · as_aux_lemma =>
          have q0 : (((kk : Int) % 8) == 0) = false := by simp; omega
          have q1 : (((kk : Int) % 8) == 1) = false := by simp; omega
          have q2 : (((kk : Int) % 8) == 2) = false := by simp; omega
          have q3 : (((kk : Int) % 8) == 3) = false := by simp; omega
          have q4 : (((kk : Int) % 8) == 4) = true := by simp; omega
          have HQ := Lib.hid hq
          clear hq
          have HC : pPart (l.drop a) lim 0 = pPart (l.drop a) lim 0 := rfl
          clear HC
          have HU := Lib.hid (bytes6_any (.slice AV (l.length - a) capV) (l.drop a) lim W.drew HBYD.out hdl)
          cases hp : pPart (l.drop a) lim 0 with
          | error k1 =>
            rw [hp] at HU
            have HE := Lib.hid (rRead_no (z := []) (res := pPart l lim) (a := a) (by rw [pPart_sh l lim a, hp]; rfl))
            have HK := Lib.hid (pPart_err hp)
            clear hp
            unfold B6Post at HU
            simp only at HU
            go_wp2_with fail
            go_region_held3 (fun W' => W'.cell? ⟨wr.heap.size, 1, none⟩ = some (.int .i64 lim)) (exact hcd.out) (first | (go_at_call 48; refine HU.out.mono ?_; rintro r w6 ⟨rfl, rfl⟩; dsimp only))
            all_goals
              go_wp2_with fail
              go_meet
              exact RefRel.err0 _ _ _ _ _ (by rw [HQ.out]; simp only [actSt]; simp; rw [HE.out]) HK.out (Touch.refl [] W).drew
          | ok x =>
            obtain ⟨x1, x2⟩ := x
            rw [hp] at HU
            have HE := Lib.hid (rRead_at (z := []) (res := pPart l lim) (a := a) (x := x1) (b := a + x2) (by rw [pPart_sh l lim a, hp]; rfl))
            clear hp
            unfold B6Post at HU
            simp only at HU
            go_wp2_with fail
            go_region_held3 (fun W' => W'.cell? ⟨wr.heap.size, 1, none⟩ = some (.int .i64 lim)) (exact hcd.out) (first | (go_at_call 48; refine HU.out.mono ?_; rintro r w6 ⟨⟨vx, rfl, hvx⟩, rfl⟩; obtain ⟨Ax, cx, ex, -⟩ := id hvx; subst ex; dsimp only))
            all_goals
              go_wp2_with fail
              go_meet
              exact RefRel.ok0 (by rw [HQ.out]; simp only [actSt]; simp; rw [HE.out]) (by rw [HQ.out]; exact ⟨nofun, nofun, nofun, nofun, fun _ => by rw [HE.out]; exact hvx, nofun, nofun⟩) (Touch.refl [] W).drew
        by_cases hq : kk % 8 = 5
        · as_aux_lemma =>
          have q0 : (((kk : Int) % 8) == 0) = false := by simp; omega
          have q1 : (((kk : Int) % 8) == 1) = false := by simp; omega
          have q2 : (((kk : Int) % 8) == 2) = false := by simp; omega
          have q3 : (((kk : Int) % 8) == 3) = false := by simp; omega
          have q4 : (((kk : Int) % 8) == 4) = false := by simp; omega
          have q5 : (((kk : Int) % 8) == 5) = true := by simp; omega
          have HQ := Lib.hid hq
          clear hq
          have HC : pPart (l.drop a) lim 0 = pPart (l.drop a) lim 0 := rfl
          clear HC
          have HU := Lib.hid (bytes6_any (.slice AV (l.length - a) capV) (l.drop a) lim W.drew HBYD.out hdl)
          cases hp : pPart (l.drop a) lim 0 with
          | error k1 =>
            rw [hp] at HU
            have HE := Lib.hid (rRead_no (z := []) (res := pPart l lim) (a := a) (by rw [pPart_sh l lim a, hp]; rfl))
            have HK := Lib.hid (pPart_err hp)
            clear hp
            unfold B6Post at HU
            simp only at HU
            go_wp2_with fail
            go_region_held3 (fun W' => W'.cell? ⟨wr.heap.size, 1, none⟩ = some (.int .i64 lim)) (exact hcd.out) (first | (go_at_call 48; refine HU.out.mono ?_; rintro r w6 ⟨rfl, rfl⟩; dsimp only))
            all_goals
              go_wp2_with fail
              go_meet
              exact RefRel.err0 _ _ _ _ _ (by rw [HQ.out]; simp only [actSt]; simp; rw [HE.out]) HK.out (Touch.refl [] W).drew
          | ok x =>
            obtain ⟨x1, x2⟩ := x
            rw [hp] at HU
            have HE := Lib.hid (rRead_at (z := []) (res := pPart l lim) (a := a) (x := x1) (b := a + x2) (by rw [pPart_sh l lim a, hp]; rfl))
            clear hp
            unfold B6Post at HU
            simp only at HU
            go_wp2_with fail
            go_region_held3 (fun W' => W'.cell? ⟨wr.heap.size, 1, none⟩ = some (.int .i64 lim)) (exact hcd.out) (first | (go_at_call 48; refine HU.out.mono ?_; rintro r w6 ⟨⟨vx, rfl, hvx⟩, rfl⟩; obtain ⟨Ax, cx, ex, -⟩ := id hvx; subst ex; dsimp only))
            all_goals
              go_wp2_with fail
              go_meet
              exact RefRel.ok0 (by rw [HQ.out]; simp only [actSt]; simp; rw [HE.out]) (by rw [HQ.out]; exact ⟨nofun, nofun, nofun, nofun, nofun, fun _ => by rw [HE.out]; exact hvx, nofun⟩) (Touch.refl [] W).drew
        by_cases hq : kk % 8 = 6
        · as_aux_lemma =>
          have q0 : (((kk : Int) % 8) == 0) = false := by simp; omega
          have q1 : (((kk : Int) % 8) == 1) = false := by simp; omega
          have q2 : (((kk : Int) % 8) == 2) = false := by simp; omega
          have q3 : (((kk : Int) % 8) == 3) = false := by simp; omega
          have q4 : (((kk : Int) % 8) == 4) = false := by simp; omega
          have q5 : (((kk : Int) % 8) == 5) = false := by simp; omega
          have q6 : (((kk : Int) % 8) == 6) = true := by simp; omega
          have HQ := Lib.hid hq
          clear hq
          have HC : pInts (l.drop a) lim 0 = pInts (l.drop a) lim 0 := rfl
          clear HC
          have HU := Lib.hid (list6_any (.slice AV (l.length - a) capV) (l.drop a) lim W.drew HBYD.out hdl)
          cases hp : pInts (l.drop a) lim 0 with
          | error k1 =>
            rw [hp] at HU
            have HE := Lib.hid (rRead_no (z := []) (res := pInts l lim) (a := a) (by rw [pInts_sh l lim a, hp]; rfl))
            have HK := Lib.hid (pInts_err hp)
            clear hp
            unfold L6Post at HU
            simp only at HU
            go_wp2_with fail
            go_region_held3 (fun W' => W'.cell? ⟨wr.heap.size, 1, none⟩ = some (.int .i64 lim)) (first | exact hcd.out | exact (htx.cell (p := ⟨wr.heap.size, 1, none⟩) (by simpa using HPN.out) (by simp)).trans hcd.out) (first | (go_at_call 49; refine HU.out.mono ?_; rintro r w6 ⟨rfl, htx⟩; dsimp only))
            all_goals
              go_wp2_with fail
              go_meet
              exact RefRel.err0 _ _ _ _ _ (by rw [HQ.out]; simp only [actSt]; simp; rw [HE.out]) HK.out ((Touch.refl [] W).drew.then0 htx)
          | ok x =>
            obtain ⟨x1, x2⟩ := x
            rw [hp] at HU
            have HE := Lib.hid (rRead_at (z := []) (res := pInts l lim) (a := a) (x := x1) (b := a + x2) (by rw [pInts_sh l lim a, hp]; rfl))
            have HF := Lib.hid (pInts_fits hp)
            clear hp
            unfold L6Post at HU
            simp only at HU
            go_wp2_with fail
            go_region_held3 (fun W' => W'.cell? ⟨wr.heap.size, 1, none⟩ = some (.int .i64 lim)) (first | exact hcd.out | exact (htx.cell (p := ⟨wr.heap.size, 1, none⟩) (by simpa using HPN.out) (by simp)).trans hcd.out) (first | (go_at_call 49; refine HU.out.mono ?_; rintro r w6 ⟨⟨vx, rfl, hvx⟩, htx⟩; obtain ⟨Ax, cx, ex⟩ := Own.form hvx; subst ex; dsimp only))
            all_goals
              go_wp2_with fail
              go_meet
              exact RefRel.ok0 (by rw [HQ.out]; simp only [actSt]; simp; rw [HE.out]) (by rw [HQ.out]; exact ⟨nofun, nofun, nofun, nofun, nofun, nofun, fun _ => by rw [HE.out]; exact ⟨hvx, HF.out⟩⟩) ((Touch.refl [] W).drew.then0 htx)
        have q0 : (((kk : Int) % 8) == 0) = false := by simp; omega
        have q1 : (((kk : Int) % 8) == 1) = false := by simp; omega
        have q2 : (((kk : Int) % 8) == 2) = false := by simp; omega
        have q3 : (((kk : Int) % 8) == 3) = false := by simp; omega
        have q4 : (((kk : Int) % 8) == 4) = false := by simp; omega
        have q5 : (((kk : Int) % 8) == 5) = false := by simp; omega
        have q6 : (((kk : Int) % 8) == 6) = false := by simp; omega
        have HQ : Hid (kk % 8 = 7) := Lib.hid (by omega)
        go_wp2_with fail
        go_meet
        exact RefRel.fail0 _ _ _ _ HQ.out
      case rest =>
        have hRR := hcut
        obtain ⟨e18, htx, -⟩ := hcut
        have HRR := Lib.hid hRR
        clear hRR
        subst e18
        obtain ⟨wa, rfl⟩ : ∃ wa : World, wa = wc := ⟨_, rfl⟩
        go_upto_if 137 with fail
        go_cut [13, 14, 15, 16, 17, 18] from 50 to 235 (fun s13 s14 s15 s16 s17 s18 wx => RefRel2 l (kk % 8) lim s W s13 s14 s15 s16 s17 s18 wx)
        case first =>
          by_cases hz : (actSt l (kk % 8) lim s).1 = 0
          · as_aux_lemma =>
            have hz1 : ((actSt l (kk % 8) lim s).1 != 0) = false := by simpa using hz
            have HZ := Lib.hid hz
            clear hz
            go_wp2_with fail
            go_meet
            exact HRR.out.two HZ.out
          · as_aux_lemma =>
            have hz1 : ((actSt l (kk % 8) lim s).1 != 0) = true := by simpa using hz
            have HZ := Lib.hid hz
            clear hz
            go_wp2_with fail
            go_meet
            exact HRR.out.two' HZ.out
        case rest =>
          clear HRR htx
          obtain ⟨e18, htx, e17, hle, hvals⟩ := hcut
          subst e18 e17
          have hrdx := (HRD.out.touch0 htW).touch0 htx
          have HRX := Lib.hid hrdx
          have HVL := Lib.hid hvals
          have hpx := HPA.out.touch htx (by simp)
          have c0 := hpx.cell 0
          have c1 := hpx.cell 1
          simp at c0 c1
          have HPX := Lib.hid hpx
          clear hrdx hvals hpx
          obtain ⟨wb, rfl⟩ : ∃ wb : World, wb = wc := ⟨_, rfl⟩
          have HTT : Hid (Touch [] w wb) := Lib.hid ((htw.then0 htW).then0 htx)
          have hpne : p3 ≠ wr.heap.size := by have := HRD.out.1.lt; omega
          have HPNE := Lib.hid hpne
          have hzx : wr.heap.size < wb.heap.size := HPX.out.lt
          have HZX := Lib.hid hzx
          have HALE : Hid (s.2 ≤ (actSt l (kk % 8) lim s).2) := Lib.hid hle
          clear hpne htx htW hle hal hfl hzx
          go_upto_block 5 with fail
          go_cut [12, 19, 20] from 50 to 235 (fun _ s19 _ wx => s19 = .bool true ∧ Rd wx p3 in3 l (actSt l (kk % 8) lim s).1 (actSt l (kk % 8) lim s).2 ∧ Touch [] w wx)
          case first =>
            by_cases hq : kk % 8 = 0
            · as_aux_lemma =>
              have q0 : (((kk : Int) % 8) == 0) = true := by simp; omega
              have HA : Hid (actSt l (kk % 8) lim s = (rRead 0 (pUint l) s).2) := Lib.hid (by rw [hq]; simp [actSt])
              have ev := HVL.out.v0 hq
              clear hq HVL
              subst ev
              go_wp2_with fail
              refine (rd_uint p3 in3 l s _ HRX.out).mono ?_
              rintro r w6 ⟨rfl, hr6, ht6⟩
              dsimp only
              go_wp2_with fail
              go_meet
              exact ⟨rfl, by rw [HA.out]; exact hr6, HTT.out.step ht6 (fun m hm => .inr (by simp at hm; omega))⟩
            by_cases hq : kk % 8 = 1
            · as_aux_lemma =>
              have q0 : (((kk : Int) % 8) == 0) = false := by simp; omega
              have q1 : (((kk : Int) % 8) == 1) = true := by simp; omega
              have HA : Hid (actSt l (kk % 8) lim s = (rRead 0 (pInt l) s).2) := Lib.hid (by rw [hq]; simp [actSt])
              have ev := HVL.out.v1 hq
              clear hq HVL
              subst ev
              go_wp2_with fail
              refine (rd_int p3 in3 l s _ HRX.out).mono ?_
              rintro r w6 ⟨rfl, hr6, ht6⟩
              dsimp only
              go_wp2_with fail
              go_meet
              exact ⟨rfl, by rw [HA.out]; exact hr6, HTT.out.step ht6 (fun m hm => .inr (by simp at hm; omega))⟩
            by_cases hq : kk % 8 = 2
            · as_aux_lemma =>
              have q0 : (((kk : Int) % 8) == 0) = false := by simp; omega
              have q1 : (((kk : Int) % 8) == 1) = false := by simp; omega
              have q2 : (((kk : Int) % 8) == 2) = true := by simp; omega
              have HA : Hid (actSt l (kk % 8) lim s = (rRead false (pBool l) s).2) := Lib.hid (by rw [hq]; simp [actSt])
              have ev := HVL.out.v2 hq
              clear hq HVL
              subst ev
              go_wp2_with fail
              refine (rd_bool p3 in3 l s _ HRX.out).mono ?_
              rintro r w6 ⟨rfl, hr6, ht6⟩
              dsimp only
              go_wp2_with fail
              go_meet
              exact ⟨rfl, by rw [HA.out]; exact hr6, HTT.out.step ht6 (fun m hm => .inr (by simp at hm; omega))⟩
            by_cases hq : kk % 8 = 3
            · as_aux_lemma =>
              have q0 : (((kk : Int) % 8) == 0) = false := by simp; omega
              have q1 : (((kk : Int) % 8) == 1) = false := by simp; omega
              have q2 : (((kk : Int) % 8) == 2) = false := by simp; omega
              have q3 : (((kk : Int) % 8) == 3) = true := by simp; omega
              have HA : Hid (actSt l (kk % 8) lim s = (rRead 0 (pCount l lim) s).2) := Lib.hid (by rw [hq]; simp [actSt])
              have ev := HVL.out.v3 hq
              clear hq HVL
              subst ev
              go_wp2_with fail
              refine (rd_count p3 in3 l s lim _ HRX.out).mono ?_
              rintro r w6 ⟨rfl, hr6, ht6⟩
              dsimp only
              go_wp2_with fail
              go_meet
              exact ⟨rfl, by rw [HA.out]; exact hr6, HTT.out.step ht6 (fun m hm => .inr (by simp at hm; omega))⟩
            by_cases hq : kk % 8 = 4
            · as_aux_lemma =>
              have q0 : (((kk : Int) % 8) == 0) = false := by simp; omega
              have q1 : (((kk : Int) % 8) == 1) = false := by simp; omega
              have q2 : (((kk : Int) % 8) == 2) = false := by simp; omega
              have q3 : (((kk : Int) % 8) == 3) = false := by simp; omega
              have q4 : (((kk : Int) % 8) == 4) = true := by simp; omega
              have HA : Hid (actSt l (kk % 8) lim s = (rRead [] (pPart l lim) s).2) := Lib.hid (by rw [hq]; simp [actSt])
              have ev := HVL.out.v4 hq
              clear hq HVL
              have hnb := HRX.out.bytes_ne ev
              have hbx := fun (W' : World) (h : Touch [p3] wb W') => run_str (Reads.touch ev h (fun g hg hm => by simp at hm; subst hm; exact hnb hg))
              have HBX := Lib.hid hbx
              obtain ⟨A15, c15, e15, -⟩ := id ev
              subst e15
              clear ev hnb hbx
              go_wp2_with fail
              refine (rd_bytes p3 in3 l s lim _ HRX.out).mono ?_
              rintro r w6 ⟨v6, rfl, hv6, -, hr6, ht6⟩
              have k1 := run_str (Row.bytes hv6)
              have k2 := HBX.out w6 ht6
              dsimp only
              go_wp2_with fail
              go_meet
              exact ⟨rfl, by rw [HA.out]; exact hr6, HTT.out.step ht6 (fun m hm => .inr (by simp at hm; omega))⟩
            by_cases hq : kk % 8 = 5
            · as_aux_lemma =>
              have q0 : (((kk : Int) % 8) == 0) = false := by simp; omega
              have q1 : (((kk : Int) % 8) == 1) = false := by simp; omega
              have q2 : (((kk : Int) % 8) == 2) = false := by simp; omega
              have q3 : (((kk : Int) % 8) == 3) = false := by simp; omega
              have q4 : (((kk : Int) % 8) == 4) = false := by simp; omega
              have q5 : (((kk : Int) % 8) == 5) = true := by simp; omega
              have HA : Hid (actSt l (kk % 8) lim s = (rRead [] (pPart l lim) s).2) := Lib.hid (by rw [hq]; simp [actSt])
              have ev := HVL.out.v5 hq
              clear hq HVL
              have hnb := HRX.out.bytes_ne ev
              have hbx := fun (W' : World) (h : Touch [p3] wb W') => run_str (Reads.touch ev h (fun g hg hm => by simp at hm; subst hm; exact hnb hg))
              have HBX := Lib.hid hbx
              obtain ⟨A15, c15, e15, -⟩ := id ev
              subst e15
              clear ev hnb hbx
              have HC1 := Lib.hid c1
              go_wp2_with fail
              generalize hyy : (rRead [] (pPart l lim) s).1 = yy at *
              have HYY := Lib.hid hyy
              clear hyy
              go_region_held3 (fun W' => W'.cell? ⟨wr.heap.size, 1, none⟩ = some (.int .i64 lim) ∧ (convert 28 9 (.slice A15 yy.length c15)).run Try.prog W' = .ok (.string ⟨yy.toArray⟩) W') (first | exact ⟨by have := HC1.out; simpa using this, HBX.out _ (Touch.refl _ _).drew⟩ | exact ⟨(ht6'.cell (p := ⟨wr.heap.size, 1, none⟩) HZX.out (by simp; exact fun e => HPNE.out e.symm)).trans HC1.out, HBX.out _ ht6'⟩) (first | (go_at_call 38; refine (rd_string p3 in3 l s lim _ (HRX.out.drewN 1)).mono ?_; rintro r w6 ⟨rfl, hr6, ht6⟩; rw [HYY.out]; dsimp only; have ht6' : Touch [p3] wb w6 := ⟨ht6.os, ht6.tape, ht6.output, ht6.size, ht6.block⟩))
              all_goals
                go_wp2_with fail
                go_meet
                exact ⟨rfl, by rw [HA.out]; exact hr6, HTT.out.step ht6' (fun m hm => .inr (by simp at hm; omega))⟩
            by_cases hq : kk % 8 = 6
            · as_aux_lemma =>
              have q0 : (((kk : Int) % 8) == 0) = false := by simp; omega
              have q1 : (((kk : Int) % 8) == 1) = false := by simp; omega
              have q2 : (((kk : Int) % 8) == 2) = false := by simp; omega
              have q3 : (((kk : Int) % 8) == 3) = false := by simp; omega
              have q4 : (((kk : Int) % 8) == 4) = false := by simp; omega
              have q5 : (((kk : Int) % 8) == 5) = false := by simp; omega
              have q6 : (((kk : Int) % 8) == 6) = true := by simp; omega
              have HA : Hid (actSt l (kk % 8) lim s = (rRead [] (pInts l lim) s).2) := Lib.hid (by rw [hq]; simp [actSt])
              have ev := HVL.out.v6 hq
              clear hq HVL
              obtain ⟨ev, hfx⟩ := ev
              have hnb := Own.ne_blk ev HRX.out.1 (by decide)
              have hbx := fun (W' : World) (h : Touch [p3] wb W') => RowI.ints' (Own.touch ev h (fun g hg hm => by simp at hm; subst hm; exact hnb hg)) hfx
              have HBX := Lib.hid hbx
              have HFX := Lib.hid hfx
              obtain ⟨A16, c16, e16⟩ := Own.form ev
              subst e16
              clear ev hnb hbx hfx
              go_wp2_with fail
              refine (rd_ints p3 in3 l s lim _ HRX.out).mono ?_
              rintro r w6 ⟨v6, rfl, hv6, -, hr6, ht6⟩
              dsimp only
              have hi2 := HBX.out w6 ht6
              go_wp2_with fail
              refine (equal_any _ _ _ _ w6 (RowI.ints' hv6 HFX.out) hi2).mono ?_
              rintro r w8 ⟨rfl, ht8⟩
              rw [decide_eq_true rfl]
              dsimp only
              go_wp2_with fail
              go_meet
              exact ⟨rfl, by rw [HA.out]; exact hr6.touch0 ht8, (HTT.out.step ht6 (fun m hm => .inr (by simp at hm; omega))).then0 ht8⟩
            have q0 : (((kk : Int) % 8) == 0) = false := by simp; omega
            have q1 : (((kk : Int) % 8) == 1) = false := by simp; omega
            have q2 : (((kk : Int) % 8) == 2) = false := by simp; omega
            have q3 : (((kk : Int) % 8) == 3) = false := by simp; omega
            have q4 : (((kk : Int) % 8) == 4) = false := by simp; omega
            have q5 : (((kk : Int) % 8) == 5) = false := by simp; omega
            have q6 : (((kk : Int) % 8) == 6) = false := by simp; omega
            have HA : Hid (actSt l (kk % 8) lim s = rFail s (bits .and .i64 lim 3)) := Lib.hid (by rw [show kk % 8 = 7 by omega]; simp [actSt])
            clear HVL
            go_wp2_with fail
            refine (rd_fail p3 in3 l s _ _ HRX.out).mono ?_
            rintro r w6 ⟨rfl, hr6, ht6⟩
            dsimp only
            go_wp2_with fail
            go_meet
            exact ⟨rfl, by rw [HA.out]; exact hr6, HTT.out.step ht6 (fun m hm => .inr (by simp at hm; omega))⟩
          case rest =>
            obtain ⟨e19, hr7, ht7⟩ := hcut
            subst e19
            have hle := HALE.out
            clear HALE HTT HRX HVL HPX HPNE HZX HW HRD HPA HPN c0 c1
            generalize actSt l (kk % 8) lim s = s' at *
            obtain ⟨e', a'⟩ := s'
            simp only at hr7 hle
            obtain ⟨d, rfl⟩ := Nat.exists_eq_add_of_le hle
            simp only [Nat.add_sub_cancel_left]
            have hale := hr7.2.2.2.1
            have HR7 := Lib.hid hr7
            have HT7 := Lib.hid ht7
            clear hr7 ht7 hle
            by_cases he : e' = 0
            · subst he
              by_cases hat : s.2 + d < l.length
              · as_aux_lemma =>
                have HEND : Hid (rEnd l 0 (s.2 + d) = 5) := Lib.hid (by unfold rEnd; rw [if_pos rfl, if_pos hat])
                have hat' : (s.2 : Int) + (d : Int) < (l.length : Int) := by omega
                have hat2 : decide ((s.2 : Int) + (d : Int) < (l.length : Int)) = true := by simpa using hat'
                clear hat
                go_wp2_with fail
                refine (rd_at p3 in3 l 0 (s.2 + d) _ HR7.out).mono ?_
                rintro r w7 ⟨rfl, rfl⟩
                rw [Int.natCast_add]
                dsimp only
                go_wp2_with fail
                refine (rd_err p3 in3 l 0 (s.2 + d) _ HR7.out).mono ?_
                rintro r w7 ⟨rfl, rfl⟩
                dsimp only
                go_wp2_with fail
                refine (rd_end p3 in3 l 0 (s.2 + d) _ HR7.out).mono ?_
                rintro r w7 ⟨rfl, n7, rfl⟩
                rw [HEND.out]
                dsimp only
                go_wp2_with fail
                go_roundw
                case rel => exact ⟨k + 1, (0, s.2 + d), by omega, by go_num, by go_num, rfl, HR7.out.drewN n7, HT7.out.drewN n7⟩
                case measure => simp [intOf]; omega
              · as_aux_lemma =>
                have HEND : Hid (rEnd l 0 (s.2 + d) = 0) := Lib.hid (by unfold rEnd; rw [if_pos rfl, if_neg hat])
                have hat' : ¬ (s.2 : Int) + (d : Int) < (l.length : Int) := by omega
                have hat2 : decide ((s.2 : Int) + (d : Int) < (l.length : Int)) = false := by simpa using hat'
                clear hat
                go_wp2_with fail
                refine (rd_at p3 in3 l 0 (s.2 + d) _ HR7.out).mono ?_
                rintro r w7 ⟨rfl, rfl⟩
                rw [Int.natCast_add]
                dsimp only
                go_wp2_with fail
                refine (rd_err p3 in3 l 0 (s.2 + d) _ HR7.out).mono ?_
                rintro r w7 ⟨rfl, rfl⟩
                dsimp only
                go_wp2_with fail
                refine (rd_end p3 in3 l 0 (s.2 + d) _ HR7.out).mono ?_
                rintro r w7 ⟨rfl, n7, rfl⟩
                rw [HEND.out]
                dsimp only
                go_wp2_with fail
                go_roundw
                case rel => exact ⟨k + 1, (0, s.2 + d), by omega, by go_num, by go_num, rfl, HR7.out.drewN n7, HT7.out.drewN n7⟩
                case measure => simp [intOf]; omega
            · as_aux_lemma =>
              have HEND : Hid (rEnd l e' (s.2 + d) = e') := Lib.hid (by unfold rEnd; rw [if_neg he])
              have he1 : (e' == 0) = false := by simpa using he
              clear he
              go_wp2_with fail
              refine (rd_at p3 in3 l e' (s.2 + d) _ HR7.out).mono ?_
              rintro r w7 ⟨rfl, rfl⟩
              rw [Int.natCast_add]
              dsimp only
              go_wp2_with fail
              refine (rd_err p3 in3 l e' (s.2 + d) _ HR7.out).mono ?_
              rintro r w7 ⟨rfl, rfl⟩
              dsimp only
              go_wp2_with fail
              refine (rd_end p3 in3 l e' (s.2 + d) _ HR7.out).mono ?_
              rintro r w7 ⟨rfl, n7, rfl⟩
              rw [HEND.out]
              dsimp only
              go_wp2_with fail
              go_roundw
              case rel => exact ⟨k + 1, (e', s.2 + d), by omega, by go_num, by go_num, rfl, HR7.out.drewN n7, HT7.out.drewN n7⟩
              case measure => simp [intOf]; omega
end Go.Proofs.Ytpbknnkobhjjcaa
