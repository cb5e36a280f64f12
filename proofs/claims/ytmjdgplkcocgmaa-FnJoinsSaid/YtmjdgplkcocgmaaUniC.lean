/-
  Contracts over units: whether joins are ones of a layout; the longest seam.
-/
import Derived.Test.YtmjdgplkcocgmaaUniB
set_option linter.unusedVariables false
namespace Go.Proofs.Ytmjdgplkcocgmaa
open Go.RowKit

set_option maxRecDepth 100000 in
set_option maxHeartbeats 2000000 in
theorem areI_any (w h : Int) (A : Option Addr) (n c : Nat) (ps : List Patch) (B : Option Addr) (m d : Nat) (ls : List Join) (W : World) (hR : Rd W A n 5 ps patchC) (hN : n ≤ 1048576) (hJ : Rd W B m 3 ls joinC) (hm : m ≤ 1048576) :
    Calls Try.prog 36 #[.agg #[.int .i64 w, .int .i64 h, .slice A n c], .slice B m d] W fun e w' => e = .returned (.bool (areJoins w h ps ls)) ∧ Below W.heap.size W w' := by
  have HLEN := Lib.hid hR.len
  have HLJ := Lib.hid hJ.len
  obtain ⟨jb, hjb⟩ : ∃ j, Hid (j = W.heap.size) := ⟨_, rfl⟩
  have e0 : (W.alloc (.cells #[.int .i64 w, .int .i64 h, .slice A n c] 30)).cell? ⟨jb, 0, none⟩ = some (.int .i64 w) := by rw [hjb.out, cell_of_row _ _ _ _ _ _ (heap_alloc_new W _)]; rfl
  have e1 : (W.alloc (.cells #[.int .i64 w, .int .i64 h, .slice A n c] 30)).cell? ⟨jb, 1, none⟩ = some (.int .i64 h) := by rw [hjb.out, cell_of_row _ _ _ _ _ _ (heap_alloc_new W _)]; rfl
  have e2 : (W.alloc (.cells #[.int .i64 w, .int .i64 h, .slice A n c] 30)).cell? ⟨jb, 2, none⟩ = some (.slice A n c) := by rw [hjb.out, cell_of_row _ _ _ _ _ _ (heap_alloc_new W _)]; rfl
  have hb0 : Below W.heap.size W (W.alloc (.cells #[.int .i64 w, .int .i64 h, .slice A n c] 30)) := (Below.refl _ _).alloc (Nat.le_refl _) _
  have hRa := hR.below hb0
  have hJa := hJ.below hb0
  have hza : W.heap.size ≤ (W.alloc (.cells #[.int .i64 w, .int .i64 h, .slice A n c] 30)).heap.size := hb0.size
  rcases hl : layoutOk w h ps with _ | _
  · have HN := Lib.hid (are_no1 (l := ls) hl)
    go_enter Try.func36, Try.ntmps36
    go_wp2_with fail
    rw [← hjb.out]
    refine (layoutI_any _ _ _ _ _ ps _ hRa hN).mono ?_
    rintro e w1 ⟨rfl, hb1⟩
    rw [hl]
    have hz1 := hb1.size
    replace e0 := keepcell e0 hb1
    replace e1 := keepcell e1 hb1
    replace e2 := keepcell e2 hb1
    have hB1 : Below W.heap.size W w1 := hb0.trans (hb1.mono hza)
    have hR1 := hRa.below hb1
    have hJ1 := hJa.below hb1
    go_wp2
    go_ret
    exact ⟨ret_b HN.out, hB1⟩
  by_cases hk : (m : Int) = (n : Int) - 1
  · have HE := Lib.hid (are_seams (l := ls) hl (by rw [HLJ.out, HLEN.out]; exact hk))
    rw [HLJ.out] at HE
    have hn1 := (layout_parts hl).2.2.1
    rw [HLEN.out] at hn1
    have hk1 : ((m : Int) == (n : Int) - 1) = true := by rw [beq_iff_eq]; exact hk
    have HL := Lib.hid hl
    clear hk
    go_enter Try.func36, Try.ntmps36
    go_wp2_with fail
    rw [← hjb.out]
    refine (layoutI_any _ _ _ _ _ ps _ hRa hN).mono ?_
    rintro e w1 ⟨rfl, hb1⟩
    rw [hl]
    have hz1 := hb1.size
    replace e0 := keepcell e0 hb1
    replace e1 := keepcell e1 hb1
    replace e2 := keepcell e2 hb1
    have hB1 : Below W.heap.size W w1 := hb0.trans (hb1.mono hza)
    have hR1 := hRa.below hb1
    have hJ1 := hJa.below hb1
    go_wp2_with (go_at_call 84; refine (unitsI_any _ _ _ _ _ ps _ _ _ ls _ hR1 HL.out hJ1 hm).mono ?_; rintro e w2 ⟨A2, n2, c2, B2, m2, d2, rfl, hO2, hS2, hb2⟩; have hsl := hS2.len)
    have hB2 := hB1.trans (hb2.mono hB1.size)
    by_cases hv : m2 = m
    · have hv1 : ((m2 : Int) == (m : Int)) = true := by rw [hv]; simp
      rw [decide_eq_true (by rw [hsl, hv])] at HE
      clear hv hsl
      go_wp2
      go_ret
      exact ⟨ret_b (by first | exact HE.out | (rw [hv1]; exact HE.out)), hB2⟩
    · have hv1 : ((m2 : Int) == (m : Int)) = false := by rw [beq_eq_false_iff_ne]; omega
      rw [decide_eq_false (by rw [hsl]; exact hv)] at HE
      clear hsl
      go_wp2
      go_ret
      exact ⟨ret_b (by first | exact HE.out | (rw [hv1]; exact HE.out)), hB2⟩
  · have HN := Lib.hid (are_no2 (w := w) (h := h) (l := ls) (ps := ps) (by rw [HLJ.out, HLEN.out]; exact hk))
    have hk1 : ((m : Int) == (n : Int) - 1) = false := by rw [beq_eq_false_iff_ne]; exact hk
    clear hk
    go_enter Try.func36, Try.ntmps36
    go_wp2_with fail
    rw [← hjb.out]
    refine (layoutI_any _ _ _ _ _ ps _ hRa hN).mono ?_
    rintro e w1 ⟨rfl, hb1⟩
    rw [hl]
    have hz1 := hb1.size
    replace e0 := keepcell e0 hb1
    replace e1 := keepcell e1 hb1
    replace e2 := keepcell e2 hb1
    have hB1 : Below W.heap.size W w1 := hb0.trans (hb1.mono hza)
    have hR1 := hRa.below hb1
    have hJ1 := hJa.below hb1
    go_wp2
    go_ret
    exact ⟨ret_b HN.out, hB1⟩

end Go.Proofs.Ytmjdgplkcocgmaa
