/- The methods of the reader of package wire: strings and lists. -/
import Derived.Test.YtpbknnkobhjjcaaReader4
namespace Go.Proofs.Ytpbknnkobhjjcaa
open Go.RowKit

theorem pPart_len {l : List UInt8} {limit : Int} {a : Nat} {y : List UInt8} {a1 : Nat} (h : pPart l limit a = .ok (y, a1)) : y.length ≤ l.length := by
  unfold pPart at h
  split at h
  · cases h
  · split at h
    · cases h
    · cases h
      simp
      omega

set_option maxRecDepth 100000 in
set_option maxHeartbeats 1000000 in
theorem bytes_cl (p N c L : Nat) (inp : Value) (l : List UInt8) (a : Nat) (limit : Int) (w : World) (h : Rd w p inp l 0 a) (hN : Blk w N 52 #[.pointer (some ⟨p, 0, none⟩)]) (hL : Blk w L 3 #[.int .i64 limit]) (hc : Blk w c 28 #[.slice none 0 0]) (hp : c ≠ p) (hi : c ∉ rb inp) (hNp : N ≠ p) (hLp : L ≠ p) :
    Calls Try.prog 91 #[.pointer (some ⟨c, 0, none⟩), .pointer (some ⟨N, 0, none⟩), .pointer (some ⟨L, 0, none⟩)] w (ClPost w p inp l [c] ((pPart l limit a).map (·.2)) fun w' => ∀ x, pPart l limit a = .ok x → ∃ v, Blk w' c 28 #[v] ∧ Row w' v x.1 ∧ ∀ g ∈ blk v, w.heap.size ≤ g) := by
  have c0 := hN.cell 0
  have c1 := hL.cell 0
  have c2 := hc.cell 0
  simp at c0 c1 c2
  cases hg : pPart l limit a with
  | error k =>
    have HG := Lib.hid hg
    clear hg
    go_enter Try.func91, Try.ntmps91
    refine wp_region_held (S := fun w' => w'.cell? ⟨c, 0, none⟩ = some (.slice none 0 0) ∧ w'.cell? ⟨N, 0, none⟩ = some (.pointer (some ⟨p, 0, none⟩)) ∧ w'.cell? ⟨L, 0, none⟩ = some (.int .i64 limit)) (by kernel_rfl) ?_
    refine wpAnyH_take (i := 0) (v := .slice none 0 0) rfl (by kernel_rfl) (by kernel_rfl) (by kernel_rfl) (fun _ _ _ h => h) (Or.inl ⟨by rfl, fun W hW => ?_⟩) ⟨c2, c0, c1⟩ ?_
    · obtain ⟨q0, q1, q2⟩ := hW
      go_simp
    refine wpAnyH_take (i := 1) (v := .pointer (some ⟨p, 0, none⟩)) rfl (by kernel_rfl) (by kernel_rfl) (by kernel_rfl) (fun _ _ _ h => h) (Or.inl ⟨by rfl, fun W hW => ?_⟩) ⟨c2, c0, c1⟩ ?_
    · obtain ⟨q0, q1, q2⟩ := hW
      go_simp
    refine wpAnyH_take (i := 2) (v := .int .i64 limit) rfl (by kernel_rfl) (by kernel_rfl) (by kernel_rfl) (fun _ _ _ h => h) (Or.inl ⟨by rfl, fun W hW => ?_⟩) ⟨c2, c0, c1⟩ ?_
    · obtain ⟨q0, q1, q2⟩ := hW
      go_simp
    refine wpAnyH_all (rs := [3]) (by kernel_rfl) (by simp) ?_
    intro i hi'
    obtain rfl : i = 3 := by simpa using hi'
    refine Or.inl ?_
    show Oper.wp _ _ _ _ _ _
    go_simp
    refine (part_any p inp l 0 a limit _ (h.drewN 1)).mono ?_
    rintro r w1 ⟨ht, hr⟩
    rw [HG.out] at hr
    obtain ⟨rfl, a1, hr1⟩ := hr
    exact ⟨rfl, rfl, ⟨a1, hr1⟩, ⟨ht.os, ht.tape, ht.output, ht.size, ht.block⟩⟩
  | ok x =>
    obtain ⟨y, a1⟩ := x
    have hyl := pPart_len hg
    have hcap := h.2.2.2.2.2
    have HG := Lib.hid hg
    clear hg
    go_enter Try.func91, Try.ntmps91
    go_region_law (first | (refine step_app_reads elem_u8 (Own.nil w1 _ 1) hv1 (B_ones y) (by omega) (by unfold maxLen; omega) ?_; intro v2 w2 ho2 ht2 hf2; have ht2' : Touch [p] w w2 := ht'.then0 ht2; have j0 := (hc.touch ht2' (by simpa using hp)).cell 0; have j3 := (hc.touch ht2' (by simpa using hp)).frozen 0; simp at j0; obtain ⟨A2, cap2, rfl⟩ := Own.form ho2) | (go_simp; go_at_call 92; refine (part_any p inp l 0 a limit _ (h.drewN 1)).mono ?_; rintro r w1 ⟨ht, hr⟩; rw [HG.out] at hr; obtain ⟨v1, rfl, hv1, hvb, hr1⟩ := hr; have ht' : Touch [p] w w1 := ⟨ht.os, ht.tape, ht.output, ht.size, ht.block⟩; have k0 := (hc.touch ht' (by simpa using hp)).cell 0; have k1 := (hN.touch ht' (by simpa using hNp)).cell 0; have k2 := (hL.touch ht' (by simpa using hLp)).cell 0; simp at k0 k1 k2))
    all_goals
      go_end0
      have hcl : c < w1.heap.size := Nat.lt_of_lt_of_le hc.lt ht'.size
      have hcv : c ∉ blk (Value.slice A2 y.length cap2) := fun hm => by
        have := hf2.none_ c (by simpa using hm)
        omega
      have ho3 : Row w2 (Value.slice A2 y.length cap2) y := by
        show Own _ _ _ _ _ _
        simpa using ho2
      refine ⟨rfl, (hr1.touch ht2 (by simp [blk]) (by simp [blk])).store hp hi _ _, (ht2'.mono (by simp)).setCell (.inl (by simp)) _, fun x hx => ?_⟩
      cases hx
      refine ⟨_, by simpa using (hc.touch ht2' (by simpa using hp)).set_ 0 (Value.slice A2 y.length cap2), ?_, fun g hg => Nat.le_trans ht'.size (hf2.none_ g (by simpa using hg))⟩
      exact Own.touch ho3 ((Touch.refl [c] w2).setCell (.inl (by simp)) _) (fun b hb hm => by simp at hm; subst hm; exact hcv hb)
end Go.Proofs.Ytpbknnkobhjjcaa
