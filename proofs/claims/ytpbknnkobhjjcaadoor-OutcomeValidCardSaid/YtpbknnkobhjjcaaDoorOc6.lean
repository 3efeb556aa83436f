/- The map of the bands, and the cost of winners. -/
import Derived.Test.YtpbknnkobhjjcaaDoorOc5
namespace Go.Proofs.YtpbknnkobhjjcaaDoor
open Go.RowKit
set_option linter.unusedSimpArgs false

def addB (f : Int → Option Value) (x : Cx) : Int → Option Value := fun n => if n = x.a then some (.int .i64 (bandOf x.b)) else f n
def bandF (A : List Cx) : Int → Option Value := fun n => if onB n A = 0 then none else some (.int .i64 (onB n A))
theorem bandOf_pos (c : Int) : 1 ≤ bandOf c ∧ bandOf c ≤ 3 := by unfold bandOf; split <;> (try split) <;> omega
theorem on_range (n : Int) (A : List Cx) : 0 ≤ onB n A ∧ onB n A ≤ 3 := by
  induction A with
  | nil => simp [onB]
  | cons x A ih =>
    simp only [onB]
    split
    · have := bandOf_pos x.b; omega
    · exact ih
theorem on_low {A : List Cx} : ∀ {last : Int}, okList cBad Cx.a last A = true → ∀ n, n ≤ last → onB n A = 0 := by
  induction A with
  | nil => intros; rfl
  | cons x A ih =>
    intro last h n hn
    simp only [okList] at h
    split at h
    · cases h
    · rename_i hb
      have h1 : ¬ x.a ≤ last := fun e => hb (.inl e)
      simp only [onB]
      rw [if_neg (by omega)]
      exact ih h n (by omega)
theorem addB_all {A : List Cx} : ∀ {last : Int}, okList cBad Cx.a last A = true → ∀ (f : Int → Option Value) (n : Int), (A.foldl addB f) n = if onB n A = 0 then f n else some (.int .i64 (onB n A)) := by
  induction A with
  | nil => intros; simp [onB]
  | cons x A ih =>
    intro last h f n
    simp only [okList] at h
    split at h
    · cases h
    · rename_i hb
      rw [List.foldl_cons, ih h (addB f x) n]
      have hp := bandOf_pos x.b
      by_cases hx : x.a = n
      · have h0 := on_low h n (by omega)
        simp only [onB, h0, hx, addB, if_true]
        rw [if_neg (by omega)]
      · have hx' : ¬ n = x.a := fun e => hx e.symm
        simp only [onB, hx, addB, hx', if_false]
theorem bands_all {A : List Cx} (h : cOk A = true) : A.foldl addB (fun _ => none) = bandF A := by
  funext n
  rw [addB_all h]
  rfl
theorem ok_chan {A : List Cx} : ∀ {last : Int}, okList cBad Cx.a last A = true → ∀ x ∈ A, 2 ≤ x.b ∧ x.b ≤ 51 := by
  induction A with
  | nil => intro last _ x hx; cases hx
  | cons y A ih =>
    intro last h x hx
    simp only [okList] at h
    split at h
    · cases h
    · rename_i hb
      rcases List.mem_cons.1 hx with rfl | hx
      · unfold cBad at hb; omega
      · exact ih h x hx
def BandsRel (w : World) (A : List Cx) (b : Nat) (ti : Value) (wr : World) : Prop :=
  ∃ k : Nat, k ≤ A.length ∧ ti = .int .i64 k ∧ IMap wr b ((A.take k).foldl addB (fun _ => none)) ∧ Touch [] w wr
def BandsPost (A : List Cx) (w : World) (r : Ending) (w' : World) : Prop := ∃ b, r = .returned (.map (some b)) ∧ w.heap.size ≤ b ∧ IMap w' b (bandF A) ∧ Touch [] w w'
set_option maxRecDepth 100000 in
set_option maxHeartbeats 4000000 in
theorem bands_any (v : Value) (A : List Cx) (w : World) (hv : Pairs w v A) (hl : A.length ≤ 100000) (hok : cOk A = true) : Calls Tryd.prog 29 #[v] w (BandsPost A w) := by
  obtain ⟨Ad, cap, rfl⟩ := hv.form
  obtain ⟨hc1, hc2⟩ := hv.cap
  have HALL := Lib.hid (bands_all hok)
  have HCH := Lib.hid (ok_chan hok)
  clear hok
  have hmm := fun (n : Int) (w : World) => run_makeMap_n (P := Tryd.prog) (t := 60) (k := 3) (e := 3) (by kernel_rfl) n w
  go_enter Tryd.func29, Tryd.ntmps29
  go_wp2_with fail
  have hst : BandsRel w A w.heap.size (.int .i64 0) (w.alloc (.map #[] 0)) := ⟨0, by omega, rfl, by simpa using IMap.new w, (Touch.refl _ _).alloc _⟩
  go_loopw [11] (fun ti wr => BandsRel w A w.heap.size ti wr) (fun ti _ => A.length - (intOf ti).toNat)
  case atStart => exact hst
  case round =>
    clear hst
    obtain ⟨k, hk, rfl, hm, ht⟩ := hrel
    by_cases hlt : k < A.length
    case neg =>
      have hlt' : ¬ (k : Int) < (A.length : Int) := by omega
      go_wp2_with fail
      go_ret
      refine ⟨_, rfl, Nat.le_refl _, ?_, ht⟩
      rw [List.take_of_length_le (by omega), HALL.out] at hm
      exact hm
    have hlt' : (k : Int) < (A.length : Int) := by omega
    obtain ⟨b, off, rfl, hb⟩ := hv.addr hlt
    obtain ⟨c0, c1⟩ := Pairs.at_ (hv.touch0 ht) hlt
    have hb' : b < wr.heap.size := by have := ht.size; omega
    have hch := HCH.out A[k] (List.getElem_mem hlt)
    have HTK : Hid ((A.take (k + 1)).foldl addB (fun _ => none) = addB ((A.take k).foldl addB (fun _ => none)) A[k]) := Lib.hid (by rw [List.take_succ_eq_append_getElem hlt, List.foldl_append]; rfl)
    generalize (A.take k).foldl addB (fun _ => none) = f at *
    generalize hxk : A[k] = x at *
    obtain ⟨xa, xb⟩ := x
    simp only at c0 c1 hch
    obtain ⟨hch1, hch2⟩ := hch
    clear hxk hv
    have hbk := Blk.new wr 50 #[.int .i64 xa, .int .i64 xb]
    have K0 : Hid ((wr.alloc (.cells #[.int .i64 xa, .int .i64 xb] 50)).drew.cell? ⟨wr.heap.size, 0, none⟩ = some (.int .i64 xa)) := Lib.hid (hbk.cell 0)
    have K1 : Hid ((wr.alloc (.cells #[.int .i64 xa, .int .i64 xb] 50)).drew.cell? ⟨wr.heap.size, 1, none⟩ = some (.int .i64 xb)) := Lib.hid (hbk.cell 1)
    obtain ⟨W', hrun, hm', ht'⟩ := IMap.update (P := Tryd.prog) (t := 60) (k := 3) (e := 3) (hm.touch0 (((Touch.refl [] wr).alloc (.cells #[.int .i64 xa, .int .i64 xb] 50)).drew)) (by kernel_rfl) (by kernel_rfl) xa (.int .i64 (bandOf xb))
    have hws : w.heap.size < wr.heap.size := hm.lt
    clear hbk
    go_wp2_with fail
    go_region_held3 (fun W => W.cell? ⟨wr.heap.size, 0, none⟩ = some (.int .i64 xa) ∧ W.cell? ⟨wr.heap.size, 1, none⟩ = some (.int .i64 xb)) (first | exact ⟨K0.out, K1.out⟩ | exact ⟨(ht'.cell (p := ⟨wr.heap.size, 0, none⟩) (by simp) (by simp; omega)).trans K0.out, (ht'.cell (p := ⟨wr.heap.size, 1, none⟩) (by simp) (by simp; omega)).trans K1.out⟩) (first | (go_at_call 45; refine (bandOf_any xb _ hch1 hch2).mono ?_; rintro r w6 ⟨rfl, rfl⟩; dsimp only))
    all_goals
      go_wp2_with fail
      go_roundw
      case rel =>
        refine ⟨k + 1, by omega, by go_num, ?_, ?_⟩
        · rw [HTK.out]
          exact hm'
        · exact ((ht.alloc _).drew).step ht' (fun m hm => by simp at hm; subst hm; exact .inr (Nat.le_refl _))
      case measure => simp [intOf]; omega
end Go.Proofs.YtpbknnkobhjjcaaDoor
