/- Bids of stations: how they lie in memory; the options that a bid names. -/
import Derived.Test.YtpbknnkobhjjcaaOptOpen
import Derived.ArgAppend
namespace Go.Proofs.Ytpbknnkobhjjcaa
open Go.RowKit
set_option linter.unusedSimpArgs false

structure Bx where
  st : Int
  pf : Int
  fv : Value
  fb : List Int
def Bx.cells (x : Bx) : List Value := [I x.st, I x.pf, x.fv]
def Bx.Ok (w : World) (x : Bx) : Prop := Fits x.st ∧ Fits x.pf ∧ Ints w x.fv x.fb
theorem Bx.Ok.touch0 {w w' : World} {x : Bx} (h : x.Ok w) (ht : Touch [] w w') : x.Ok w' := ⟨h.1, h.2.1, h.2.2.touch0 ht⟩
def Bx.names (x : Bx) : List Int := x.pf :: x.fb
/-- New ints: a slice that reads as l, in new memory. -/
def NewL (w : World) (l : List Int) (r : Ending) (w' : World) : Prop := ∃ v, r = .returned v ∧ Ints w' v l ∧ Touch [] w w'

section
variable {P : Program} {w : World}
theorem run_append_full {t ty e : TypeId} {size bytes : Nat} (he : Elem P t e size bytes) (b n : Nat) (xs : List Value) (hx : Reads w size (.slice (some ⟨b, 0, none⟩) n n) n xs) (hn : 0 < n)
    (y : Value) (m : Nat) (news : List Value) (hr : Reads w size y m news) (hb : (n + m) * bytes ≤ 140737488355328) (h63 : n + m ≤ maxLen) :
    ∃ v' w', (Builtin.append_ #[t, t] ty #[.slice (some ⟨b, 0, none⟩) n n, y]).run P w = .ok v' w' ∧ Reads w' size v' (n + m) (xs ++ news) ∧ Touch [] w w' := by
  obtain ⟨ht, i, z, hi, hz, hsz, hby, hzs, hpos⟩ := he
  obtain ⟨A, cap, rfl, hmc, hcm, hlen, hcells⟩ := hr
  obtain ⟨A', cap', e', h1, h2, hxl, hxc⟩ := id hx
  rcases Nat.eq_zero_or_pos m with rfl | hm
  · have hz : news = [] := List.eq_nil_of_length_eq_zero (by simpa using hlen)
    subst hz
    refine ⟨.slice (some ⟨b, 0, none⟩) n n, w, ?_, by simpa using hx, Touch.refl _ _⟩
    cases A <;> simp [Builtin.append_, run_underlying ht, sizeOf, typeInfo, hi, Builtin.lenOf, Builtin.firstCells, storeCells, loadCells, loadCellsFrom]
  · obtain ⟨b2, off2, rfl, hlt2, hc2⟩ := hcells hm
    obtain ⟨b1, off1, e1, hlt1, hc1⟩ := hxc hn
    injection e' with e2 _ _
    rw [← e2] at e1
    injection e1 with e1
    injection e1 with e3 e4
    subst e3 e4
    obtain ⟨v', w', hrun, h3, h4⟩ := run_append_arg_grows (P := P) w t ty e i z size bytes ht hi hz hsz hby hzs hpos ⟨b, 0, none⟩ n n xs hxl (fun j u hu => by rw [add_lit]; exact hc1 j u hu) ⟨b2, off2, none⟩ m cap news hlen (fun j u hu => by rw [add_lit]; exact hc2 j u hu) (by omega) h63 hb
    exact ⟨v', w', hrun, Reads.of_own h3 h63, Touch.of_grown h4⟩
theorem step_app_full {ops : Array Oper} {o : Oper} {a : Act} {K : Act → World → Prop} {Q : Exit → Act → World → Prop} {E : Prop} {t e : TypeId} {size bytes : Nat} {s x : Operand} {b n : Nat} {xs : List Value} {y : Value} {m : Nat} {news : List Value} (he : Elem P t e size bytes)
    (hx : Reads w size (.slice (some ⟨b, 0, none⟩) n n) n xs) (hn : 0 < n) (hr : Reads w size y m news) (hb : (n + m) * bytes ≤ 140737488355328) (h63 : n + m ≤ maxLen)
    (h : ∀ v' w', Reads w' size v' (n + m) (xs ++ news) → Touch [] w w' → K (a.put o.dst v') w')
    (hgd : o.guard = none := by rfl) (ho : o.op = .call { callee := .builtin .append, args := #[s, x], argTypes := #[t, t] } := by rfl)
    (hs : a.eval s = .slice (some ⟨b, 0, none⟩) n n := by rfl) (hy : a.eval x = y := by rfl) :
    if Region.wanted o (yielded ops a.tmps) = true then Oper.wp P o a w K Q else E := by
  have hw : Region.wanted o (yielded ops a.tmps) = true := by simp [Region.wanted, hgd]
  rw [if_pos hw]
  obtain ⟨v', w', hrun, h2, h3⟩ := run_append_full (ty := o.type) he b n xs hx hn y m news hr hb h63
  unfold Oper.wp execOp
  simp only [ho, resolve, invoke, builtin, Sem.run_bind, Sem.run_pure, Result.andThen_ok, List.map_toArray, List.map_cons, List.map_nil, hs, hy, hrun]
  exact h v' w' h2 h3
end
theorem I_ones (l : List Int) : ∀ u ∈ l.map I, u.oneCell' = true := by
  intro u hu
  obtain ⟨x, _, rfl⟩ := List.mem_map.1 hu
  rfl
theorem names_ints {w : World} {v : Value} {x : Bx} (h : Reads w 1 v (1 + x.fb.length) ([I x.pf] ++ x.fb.map I)) (h1 : Fits x.pf) (h2 : ∀ n ∈ x.fb, Fits n) : Ints w v x.names := by
  refine ⟨?_, fun n hn => ?_⟩
  · unfold Bx.names
    rw [List.length_cons, Nat.add_comm]
    exact h
  · rcases List.mem_cons.1 hn with rfl | hn
    · exact h1
    · exact h2 n hn

set_option maxRecDepth 100000 in
set_option maxHeartbeats 1000000 in
theorem named_any (x : Bx) (w : World) (hx : x.Ok w) (hl : x.fb.length ≤ 1000) : Calls Try.prog 106 #[.agg #[I x.st, I x.pf, x.fv]] w (NewL w x.names) := by
  obtain ⟨hs, hp, hI⟩ := hx
  obtain ⟨A, cap, hfv, -⟩ := id hI.1
  have hta := (Touch.refl [] w).alloc (.cells #[I x.st, I x.pf, x.fv] 91)
  have hblk := Blk.new w 91 #[I x.st, I x.pf, x.fv]
  have htb := (Touch.refl [] (w.alloc (.cells #[I x.st, I x.pf, x.fv] 91))).alloc (.cells #[I x.pf] 138)
  have hI2 := (hI.touch0 hta).touch0 htb
  have hrd := Reads.lit (w.alloc (.cells #[I x.st, I x.pf, x.fv] 91)) 138 (0, 0) [I x.pf] 1 rfl (by simp [maxLen])
  have HC := Lib.hid (((hblk.touch htb (by simp)).cell 2))
  have HNM := Lib.hid (fun (W : World) (v : Value) (h : Reads W 1 v (1 + x.fb.length) ([I x.pf] ++ x.fb.map I)) => names_ints h hp hI.2)
  rw [show (w.alloc (.cells #[I x.st, I x.pf, x.fv] 91)).heap.size = w.heap.size + 1 by simp] at hrd
  obtain ⟨st, pf, fv, fb⟩ := x
  simp only at hfv hta hblk htb hI2 hrd HC HNM hl ⊢
  subst hfv
  clear hblk hI hp hs
  unfold I at *
  go_enter Try.func106, Try.ntmps106
  go_wp2_with fail
  go_region_held3 (fun W => W.cell? ⟨w.heap.size, 2, none⟩ = some (.slice A fb.length cap)) (first | exact HC.out | exact (ht3.cell (p := ⟨w.heap.size, 2, none⟩) (by simp; omega) (by simp)).trans HC.out) ((refine step_app_full elem_int (Reads.touch0 hrd (Touch.refl [] _).drew) (by omega) (hI2.touch0 (Touch.refl [] _).drew).1 (by omega) (by unfold maxLen; omega) ?_; intro v3 w3 hr3 ht3'; have ht3 : Touch [] ((w.alloc (.cells #[.int .i64 st, .int .i64 pf, .slice A fb.length cap] 91)).alloc (.cells #[.int .i64 pf] 138)) w3 := ⟨ht3'.os, ht3'.tape, ht3'.output, ht3'.size, ht3'.block⟩))
  all_goals
    go_wp2_with fail
    go_ret
    exact ⟨_, rfl, HNM.out _ _ hr3, (hta.then0 htb).then0 ht3⟩
set_option maxRecDepth 100000 in
set_option maxHeartbeats 1000000 in
theorem rnamed_any (x : Bx) (w : World) (hx : x.Ok w) (hl : x.fb.length ≤ 1000) : Calls Try.prog 75 #[.agg #[I x.st, I x.pf, x.fv]] w (NewL w x.names) := by
  obtain ⟨hs, hp, hI⟩ := hx
  obtain ⟨A, cap, hfv, -⟩ := id hI.1
  have hta := (Touch.refl [] w).alloc (.cells #[I x.st, I x.pf, x.fv] 91)
  have htb := (Touch.refl [] (w.alloc (.cells #[I x.st, I x.pf, x.fv] 91))).alloc (.cells #[I x.pf] 3)
  have hI2 := (hI.touch0 hta).touch0 htb
  have hrd := Own.lit (w.alloc (.cells #[I x.st, I x.pf, x.fv] 91)) 3 1 1 [I x.pf] rfl (by simp [maxLen])
  have HNM := Lib.hid (fun (W : World) (v : Value) (h : Reads W 1 v (1 + x.fb.length) ([I x.pf] ++ x.fb.map I)) => names_ints h hp hI.2)
  rw [show (w.alloc (.cells #[I x.st, I x.pf, x.fv] 91)).heap.size = w.heap.size + 1 by simp] at hrd
  obtain ⟨st, pf, fv, fb⟩ := x
  simp only at hfv hta htb hI2 hrd HNM hl ⊢
  subst hfv
  clear hI hp hs
  unfold I at *
  go_enter Try.func75, Try.ntmps75
  go_wp2_with (at_builtin; go_must (refine app_reads elem_int hrd hI2.1 (I_ones fb) (by omega) (by unfold maxLen; omega) ?_); intro v3 w3 ho3 ht3 hf3)
  go_ret
  refine ⟨_, rfl, HNM.out _ _ (Own.reads ho3), (hta.then0 htb).step ht3 (fun m hm => .inr ?_)⟩
  have : m = w.heap.size + 1 := by simpa [blk] using hm
  omega
end Go.Proofs.Ytpbknnkobhjjcaa
