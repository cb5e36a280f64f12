/-
  The walks of the exact laws of this seat, out of the contracts.
-/
import Derived.Test.YtmjdgplkcocgmaaKnoM
import Derived.Test.YtmjdgplkcocgmaaFlatLayout
set_option linter.unusedVariables false
namespace Go.Proofs.Ytmjdgplkcocgmaa
open Go.RowKit

set_option maxRecDepth 100000 in
set_option maxHeartbeats 2000000 in
theorem walk_FnExactFirstKnot (a0_0 a0_1 : Int) (A0 : Option Addr) (n0 c0 : Nat) (xs0 : List Patch) (W : World) (hw0_0 : (Lit.int .i64 a0_0).wf = true) (hw0_1 : (Lit.int .i64 a0_1).wf = true) (hk0_ : n0 ≤ c0) (hm0_ : c0 ≤ maxLen) (hR0 : Rd W A0 n0 5 xs0 patchC) :
    Calls Try.prog 10 #[.agg #[.int .i64 a0_0, .int .i64 a0_1, .slice A0 n0 c0]] W fun e w' => e = .returned (.bool true) ∧ Below W.heap.size W w' := by
  clear hw0_0 hw0_1
  rcases (szLeft_cases (1048576) n0) with ⟨hl0, hs0⟩ | ⟨hl0, hs0⟩
  · go_enter Try.func10, Try.ntmps10
    go_wp2_with (first | (go_at_call 15; refine (szLayout_any _ _ _ _ _ _ _ (by omega) (by omega) (by unfold maxLen at *; omega)).mono ?_; rintro e wz ⟨rfl, hbz⟩; have hqz := hbz.size; (try simp at hqz)))
    go_ret
    exact ⟨rfl, by (repeat (first | exact Below.refl _ _ | assumption | (refine Below.drew ?_) | (refine below_drewN ?_ _) | (refine Below.alloc ?_ (by first | exact Nat.le_refl _ | (simp; done) | (simp; omega) | omega) _) | (refine Below.setCell ?_ (by first | exact Nat.le_refl _ | (simp; done) | (simp; omega) | omega) _) | (refine Below.trans ?_ (Below.mono (by assumption) (by first | exact Nat.le_refl _ | (simp; done) | (simp; omega) | omega)))))⟩
  have hol := knot_small a0_0 a0_1 xs0
  have hR00_ := hR0
  go_enter Try.func10, Try.ntmps10
  go_wp2_with fail
  obtain ⟨bx, hbx⟩ : ∃ b, Hid (b = W.heap.size) := ⟨_, rfl⟩
  have qbx_0 : (W.alloc (.cells #[.int .i64 a0_0, .int .i64 a0_1, .slice A0 n0 c0] 24)).cell? ⟨bx, 0, none⟩ = some (.int .i64 a0_0) := by rw [hbx.out, cell_of_row _ _ _ _ _ _ (heap_alloc_new W _)]; rfl
  have qbx_1 : (W.alloc (.cells #[.int .i64 a0_0, .int .i64 a0_1, .slice A0 n0 c0] 24)).cell? ⟨bx, 1, none⟩ = some (.int .i64 a0_1) := by rw [hbx.out, cell_of_row _ _ _ _ _ _ (heap_alloc_new W _)]; rfl
  have qbx_2 : (W.alloc (.cells #[.int .i64 a0_0, .int .i64 a0_1, .slice A0 n0 c0] 24)).cell? ⟨bx, 2, none⟩ = some (.slice A0 n0 c0) := by rw [hbx.out, cell_of_row _ _ _ _ _ _ (heap_alloc_new W _)]; rfl
  have hb1 : Below W.heap.size W (W.alloc (.cells #[.int .i64 a0_0, .int .i64 a0_1, .slice A0 n0 c0] 24)) := (Below.refl _ _).alloc (Nat.le_refl _) _
  have hz1 : W.heap.size < (W.alloc (.cells #[.int .i64 a0_0, .int .i64 a0_1, .slice A0 n0 c0] 24)).heap.size := by simp
  rw [← hbx.out]
  generalize (W.alloc (.cells #[.int .i64 a0_0, .int .i64 a0_1, .slice A0 n0 c0] 24)) = w1 at qbx_0 qbx_1 qbx_2 hb1 hz1 ⊢
  have hB1 : Below W.heap.size W w1 := hb1
  have hs1 : W.heap.size ≤ w1.heap.size := hB1.size
  replace hR0 := hR0.below hb1
  refine (szLayout_any _ _ _ _ _ _ _ (by omega) (by omega) (by unfold maxLen at *; omega)).mono ?_
  rintro e w2 ⟨rfl, hb2⟩
  have hz2 := hb2.size
  have hB2 : Below W.heap.size W w2 := hB1.trans (hb2.mono hs1)
  have hs2 : W.heap.size ≤ w2.heap.size := hB2.size
  replace hR0 := hR0.below hb2
  replace qbx_0 := keepcell qbx_0 hb2
  replace qbx_1 := keepcell qbx_1 hb2
  replace qbx_2 := keepcell qbx_2 hb2
  clear hb2
  have hn0_ : n0 ≤ 1048576 := by omega
  go_wp2_with fail
  refine (toLayout_any a0_0 a0_1 A0 n0 c0 xs0 _ hR0 (by omega)).mono ?_
  rintro e w3 ⟨A_3, c_3, rfl, hk_3, hO3, hb3⟩
  have hz3 := hb3.size
  have hB3 : Below W.heap.size W w3 := hB2.trans (hb3.mono hs2)
  have hs3 : W.heap.size ≤ w3.heap.size := hB3.size
  replace hR0 := hR0.below hb3
  replace qbx_0 := keepcell qbx_0 hb3
  replace qbx_1 := keepcell qbx_1 hb3
  replace qbx_2 := keepcell qbx_2 hb3
  clear hb3
  go_wp2_with fail
  refine (knotS_any _ _ _ _ _ xs0 _ (hO3.rd) (by omega)).mono ?_
  rintro e w4 ⟨A_4, n_4, c_4, rfl, hk_4, hO4, hb4⟩
  have hz4 := hb4.size
  have hB4 : Below W.heap.size W w4 := hB3.trans (hb4.mono hs3)
  have hs4 : W.heap.size ≤ w4.heap.size := hB4.size
  replace hO3 := hO3.below hb4
  replace hR0 := hR0.below hb4
  replace qbx_0 := keepcell qbx_0 hb4
  replace qbx_1 := keepcell qbx_1 hb4
  replace qbx_2 := keepcell qbx_2 hb4
  clear hb4
  obtain rfl := hO4.len
  have qbx_0_n := keepcell qbx_0 ((Below.refl _ _).alloc (Nat.le_refl _) (.cells #[.int .i64 (kw (firstKnot ⟨a0_0, a0_1, xs0⟩)), .int .i64 (kh (firstKnot ⟨a0_0, a0_1, xs0⟩)), .slice A_4 (kp (firstKnot ⟨a0_0, a0_1, xs0⟩)).length c_4] 30))
  have qbx_1_n := keepcell qbx_1 ((Below.refl _ _).alloc (Nat.le_refl _) (.cells #[.int .i64 (kw (firstKnot ⟨a0_0, a0_1, xs0⟩)), .int .i64 (kh (firstKnot ⟨a0_0, a0_1, xs0⟩)), .slice A_4 (kp (firstKnot ⟨a0_0, a0_1, xs0⟩)).length c_4] 30))
  have qbx_2_n := keepcell qbx_2 ((Below.refl _ _).alloc (Nat.le_refl _) (.cells #[.int .i64 (kw (firstKnot ⟨a0_0, a0_1, xs0⟩)), .int .i64 (kh (firstKnot ⟨a0_0, a0_1, xs0⟩)), .slice A_4 (kp (firstKnot ⟨a0_0, a0_1, xs0⟩)).length c_4] 30))
  go_wp2_with fail
  clear qbx_0_n qbx_1_n qbx_2_n
  obtain ⟨pw, hpw⟩ : ∃ b, Hid (b = w4.heap.size) := ⟨_, rfl⟩
  have qpw_0 : (w4.alloc (.cells #[.int .i64 (kw (firstKnot ⟨a0_0, a0_1, xs0⟩)), .int .i64 (kh (firstKnot ⟨a0_0, a0_1, xs0⟩)), .slice A_4 (kp (firstKnot ⟨a0_0, a0_1, xs0⟩)).length c_4] 30)).cell? ⟨pw, 0, none⟩ = some (.int .i64 (kw (firstKnot ⟨a0_0, a0_1, xs0⟩))) := by rw [hpw.out, cell_of_row _ _ _ _ _ _ (heap_alloc_new w4 _)]; rfl
  have qpw_1 : (w4.alloc (.cells #[.int .i64 (kw (firstKnot ⟨a0_0, a0_1, xs0⟩)), .int .i64 (kh (firstKnot ⟨a0_0, a0_1, xs0⟩)), .slice A_4 (kp (firstKnot ⟨a0_0, a0_1, xs0⟩)).length c_4] 30)).cell? ⟨pw, 1, none⟩ = some (.int .i64 (kh (firstKnot ⟨a0_0, a0_1, xs0⟩))) := by rw [hpw.out, cell_of_row _ _ _ _ _ _ (heap_alloc_new w4 _)]; rfl
  have qpw_2 : (w4.alloc (.cells #[.int .i64 (kw (firstKnot ⟨a0_0, a0_1, xs0⟩)), .int .i64 (kh (firstKnot ⟨a0_0, a0_1, xs0⟩)), .slice A_4 (kp (firstKnot ⟨a0_0, a0_1, xs0⟩)).length c_4] 30)).cell? ⟨pw, 2, none⟩ = some (.slice A_4 (kp (firstKnot ⟨a0_0, a0_1, xs0⟩)).length c_4) := by rw [hpw.out, cell_of_row _ _ _ _ _ _ (heap_alloc_new w4 _)]; rfl
  have hb5 : Below w4.heap.size w4 (w4.alloc (.cells #[.int .i64 (kw (firstKnot ⟨a0_0, a0_1, xs0⟩)), .int .i64 (kh (firstKnot ⟨a0_0, a0_1, xs0⟩)), .slice A_4 (kp (firstKnot ⟨a0_0, a0_1, xs0⟩)).length c_4] 30)) := (Below.refl _ _).alloc (Nat.le_refl _) _
  have hz5 : w4.heap.size < (w4.alloc (.cells #[.int .i64 (kw (firstKnot ⟨a0_0, a0_1, xs0⟩)), .int .i64 (kh (firstKnot ⟨a0_0, a0_1, xs0⟩)), .slice A_4 (kp (firstKnot ⟨a0_0, a0_1, xs0⟩)).length c_4] 30)).heap.size := by simp
  rw [← hpw.out]
  generalize (w4.alloc (.cells #[.int .i64 (kw (firstKnot ⟨a0_0, a0_1, xs0⟩)), .int .i64 (kh (firstKnot ⟨a0_0, a0_1, xs0⟩)), .slice A_4 (kp (firstKnot ⟨a0_0, a0_1, xs0⟩)).length c_4] 30)) = w5 at qpw_0 qpw_1 qpw_2 hb5 hz5 ⊢
  have hB5 : Below W.heap.size W w5 := hB4.trans (hb5.mono hs4)
  have hs5 : W.heap.size ≤ w5.heap.size := hB5.size
  replace hO3 := hO3.below hb5
  replace hO4 := hO4.below hb5
  replace hR0 := hR0.below hb5
  replace qbx_0 := keepcell qbx_0 hb5
  replace qbx_1 := keepcell qbx_1 hb5
  replace qbx_2 := keepcell qbx_2 hb5
  refine (toLayout_any a0_0 a0_1 A0 n0 c0 xs0 _ hR0 (by omega)).mono ?_
  rintro e w6 ⟨A_6, c_6, rfl, hk_6, hO6, hb6⟩
  have hz6 := hb6.size
  have hB6 : Below W.heap.size W w6 := hB5.trans (hb6.mono hs5)
  have hs6 : W.heap.size ≤ w6.heap.size := hB6.size
  replace hO4 := hO4.below hb6
  replace hR0 := hR0.below hb6
  replace qbx_0 := keepcell qbx_0 hb6
  replace qbx_1 := keepcell qbx_1 hb6
  replace qbx_2 := keepcell qbx_2 hb6
  replace qpw_0 := keepcell qpw_0 hb6
  replace qpw_1 := keepcell qpw_1 hb6
  replace qpw_2 := keepcell qpw_2 hb6
  clear hb6
  go_wp2_with fail
  obtain ⟨bx6, hbx6⟩ : ∃ b, Hid (b = w6.heap.size) := ⟨_, rfl⟩
  have qbx6_0 : (w6.alloc (.cells #[.int .i64 a0_0, .int .i64 a0_1, .slice A_6 n0 c_6] 30)).cell? ⟨bx6, 0, none⟩ = some (.int .i64 a0_0) := by rw [hbx6.out, cell_of_row _ _ _ _ _ _ (heap_alloc_new w6 _)]; rfl
  have qbx6_1 : (w6.alloc (.cells #[.int .i64 a0_0, .int .i64 a0_1, .slice A_6 n0 c_6] 30)).cell? ⟨bx6, 1, none⟩ = some (.int .i64 a0_1) := by rw [hbx6.out, cell_of_row _ _ _ _ _ _ (heap_alloc_new w6 _)]; rfl
  have qbx6_2 : (w6.alloc (.cells #[.int .i64 a0_0, .int .i64 a0_1, .slice A_6 n0 c_6] 30)).cell? ⟨bx6, 2, none⟩ = some (.slice A_6 n0 c_6) := by rw [hbx6.out, cell_of_row _ _ _ _ _ _ (heap_alloc_new w6 _)]; rfl
  have hb7 : Below w6.heap.size w6 (w6.alloc (.cells #[.int .i64 a0_0, .int .i64 a0_1, .slice A_6 n0 c_6] 30)) := (Below.refl _ _).alloc (Nat.le_refl _) _
  have hz7 : w6.heap.size < (w6.alloc (.cells #[.int .i64 a0_0, .int .i64 a0_1, .slice A_6 n0 c_6] 30)).heap.size := by simp
  rw [← hbx6.out]
  generalize (w6.alloc (.cells #[.int .i64 a0_0, .int .i64 a0_1, .slice A_6 n0 c_6] 30)) = w7 at qbx6_0 qbx6_1 qbx6_2 hb7 hz7 ⊢
  have hB7 : Below W.heap.size W w7 := hB6.trans (hb7.mono hs6)
  have hs7 : W.heap.size ≤ w7.heap.size := hB7.size
  replace hO4 := hO4.below hb7
  replace hO6 := hO6.below hb7
  replace hR0 := hR0.below hb7
  replace qbx_0 := keepcell qbx_0 hb7
  replace qbx_1 := keepcell qbx_1 hb7
  replace qbx_2 := keepcell qbx_2 hb7
  replace qpw_0 := keepcell qpw_0 hb7
  replace qpw_1 := keepcell qpw_1 hb7
  replace qpw_2 := keepcell qpw_2 hb7
  refine (knotI_all _ _ _ _ _ xs0 _ (hO6.rd) (by omega)).mono ?_
  rintro e w8 ⟨A_8, n_8, c_8, rfl, hk_8, hO8, hb8⟩
  have hz8 := hb8.size
  have hB8 : Below W.heap.size W w8 := hB7.trans (hb8.mono hs7)
  have hs8 : W.heap.size ≤ w8.heap.size := hB8.size
  replace hO4 := hO4.below hb8
  replace hO6 := hO6.below hb8
  replace hR0 := hR0.below hb8
  replace qbx_0 := keepcell qbx_0 hb8
  replace qbx_1 := keepcell qbx_1 hb8
  replace qbx_2 := keepcell qbx_2 hb8
  replace qpw_0 := keepcell qpw_0 hb8
  replace qpw_1 := keepcell qpw_1 hb8
  replace qpw_2 := keepcell qpw_2 hb8
  replace qbx6_0 := keepcell qbx6_0 hb8
  replace qbx6_1 := keepcell qbx6_1 hb8
  replace qbx6_2 := keepcell qbx6_2 hb8
  clear hb8
  obtain rfl := hO8.len
  have qbx_0_n := keepcell qbx_0 ((Below.refl _ _).alloc (Nat.le_refl _) (.cells #[.int .i64 (kw (firstKnot ⟨a0_0, a0_1, xs0⟩)), .int .i64 (kh (firstKnot ⟨a0_0, a0_1, xs0⟩)), .slice A_8 (kp (firstKnot ⟨a0_0, a0_1, xs0⟩)).length c_8] 30))
  have qbx_1_n := keepcell qbx_1 ((Below.refl _ _).alloc (Nat.le_refl _) (.cells #[.int .i64 (kw (firstKnot ⟨a0_0, a0_1, xs0⟩)), .int .i64 (kh (firstKnot ⟨a0_0, a0_1, xs0⟩)), .slice A_8 (kp (firstKnot ⟨a0_0, a0_1, xs0⟩)).length c_8] 30))
  have qbx_2_n := keepcell qbx_2 ((Below.refl _ _).alloc (Nat.le_refl _) (.cells #[.int .i64 (kw (firstKnot ⟨a0_0, a0_1, xs0⟩)), .int .i64 (kh (firstKnot ⟨a0_0, a0_1, xs0⟩)), .slice A_8 (kp (firstKnot ⟨a0_0, a0_1, xs0⟩)).length c_8] 30))
  have qpw_0_n := keepcell qpw_0 ((Below.refl _ _).alloc (Nat.le_refl _) (.cells #[.int .i64 (kw (firstKnot ⟨a0_0, a0_1, xs0⟩)), .int .i64 (kh (firstKnot ⟨a0_0, a0_1, xs0⟩)), .slice A_8 (kp (firstKnot ⟨a0_0, a0_1, xs0⟩)).length c_8] 30))
  have qpw_1_n := keepcell qpw_1 ((Below.refl _ _).alloc (Nat.le_refl _) (.cells #[.int .i64 (kw (firstKnot ⟨a0_0, a0_1, xs0⟩)), .int .i64 (kh (firstKnot ⟨a0_0, a0_1, xs0⟩)), .slice A_8 (kp (firstKnot ⟨a0_0, a0_1, xs0⟩)).length c_8] 30))
  have qpw_2_n := keepcell qpw_2 ((Below.refl _ _).alloc (Nat.le_refl _) (.cells #[.int .i64 (kw (firstKnot ⟨a0_0, a0_1, xs0⟩)), .int .i64 (kh (firstKnot ⟨a0_0, a0_1, xs0⟩)), .slice A_8 (kp (firstKnot ⟨a0_0, a0_1, xs0⟩)).length c_8] 30))
  have qbx6_0_n := keepcell qbx6_0 ((Below.refl _ _).alloc (Nat.le_refl _) (.cells #[.int .i64 (kw (firstKnot ⟨a0_0, a0_1, xs0⟩)), .int .i64 (kh (firstKnot ⟨a0_0, a0_1, xs0⟩)), .slice A_8 (kp (firstKnot ⟨a0_0, a0_1, xs0⟩)).length c_8] 30))
  have qbx6_1_n := keepcell qbx6_1 ((Below.refl _ _).alloc (Nat.le_refl _) (.cells #[.int .i64 (kw (firstKnot ⟨a0_0, a0_1, xs0⟩)), .int .i64 (kh (firstKnot ⟨a0_0, a0_1, xs0⟩)), .slice A_8 (kp (firstKnot ⟨a0_0, a0_1, xs0⟩)).length c_8] 30))
  have qbx6_2_n := keepcell qbx6_2 ((Below.refl _ _).alloc (Nat.le_refl _) (.cells #[.int .i64 (kw (firstKnot ⟨a0_0, a0_1, xs0⟩)), .int .i64 (kh (firstKnot ⟨a0_0, a0_1, xs0⟩)), .slice A_8 (kp (firstKnot ⟨a0_0, a0_1, xs0⟩)).length c_8] 30))
  go_wp2_with fail
  clear qbx_0_n qbx_1_n qbx_2_n qpw_0_n qpw_1_n qpw_2_n qbx6_0_n qbx6_1_n qbx6_2_n
  obtain ⟨pg, hpg⟩ : ∃ b, Hid (b = w8.heap.size) := ⟨_, rfl⟩
  have qpg_0 : (w8.alloc (.cells #[.int .i64 (kw (firstKnot ⟨a0_0, a0_1, xs0⟩)), .int .i64 (kh (firstKnot ⟨a0_0, a0_1, xs0⟩)), .slice A_8 (kp (firstKnot ⟨a0_0, a0_1, xs0⟩)).length c_8] 30)).cell? ⟨pg, 0, none⟩ = some (.int .i64 (kw (firstKnot ⟨a0_0, a0_1, xs0⟩))) := by rw [hpg.out, cell_of_row _ _ _ _ _ _ (heap_alloc_new w8 _)]; rfl
  have qpg_1 : (w8.alloc (.cells #[.int .i64 (kw (firstKnot ⟨a0_0, a0_1, xs0⟩)), .int .i64 (kh (firstKnot ⟨a0_0, a0_1, xs0⟩)), .slice A_8 (kp (firstKnot ⟨a0_0, a0_1, xs0⟩)).length c_8] 30)).cell? ⟨pg, 1, none⟩ = some (.int .i64 (kh (firstKnot ⟨a0_0, a0_1, xs0⟩))) := by rw [hpg.out, cell_of_row _ _ _ _ _ _ (heap_alloc_new w8 _)]; rfl
  have qpg_2 : (w8.alloc (.cells #[.int .i64 (kw (firstKnot ⟨a0_0, a0_1, xs0⟩)), .int .i64 (kh (firstKnot ⟨a0_0, a0_1, xs0⟩)), .slice A_8 (kp (firstKnot ⟨a0_0, a0_1, xs0⟩)).length c_8] 30)).cell? ⟨pg, 2, none⟩ = some (.slice A_8 (kp (firstKnot ⟨a0_0, a0_1, xs0⟩)).length c_8) := by rw [hpg.out, cell_of_row _ _ _ _ _ _ (heap_alloc_new w8 _)]; rfl
  have hb9 : Below w8.heap.size w8 (w8.alloc (.cells #[.int .i64 (kw (firstKnot ⟨a0_0, a0_1, xs0⟩)), .int .i64 (kh (firstKnot ⟨a0_0, a0_1, xs0⟩)), .slice A_8 (kp (firstKnot ⟨a0_0, a0_1, xs0⟩)).length c_8] 30)) := (Below.refl _ _).alloc (Nat.le_refl _) _
  have hz9 : w8.heap.size < (w8.alloc (.cells #[.int .i64 (kw (firstKnot ⟨a0_0, a0_1, xs0⟩)), .int .i64 (kh (firstKnot ⟨a0_0, a0_1, xs0⟩)), .slice A_8 (kp (firstKnot ⟨a0_0, a0_1, xs0⟩)).length c_8] 30)).heap.size := by simp
  rw [← hpg.out]
  generalize (w8.alloc (.cells #[.int .i64 (kw (firstKnot ⟨a0_0, a0_1, xs0⟩)), .int .i64 (kh (firstKnot ⟨a0_0, a0_1, xs0⟩)), .slice A_8 (kp (firstKnot ⟨a0_0, a0_1, xs0⟩)).length c_8] 30)) = w9 at qpg_0 qpg_1 qpg_2 hb9 hz9 ⊢
  have hB9 : Below W.heap.size W w9 := hB8.trans (hb9.mono hs8)
  have hs9 : W.heap.size ≤ w9.heap.size := hB9.size
  replace hO4 := hO4.below hb9
  replace hO6 := hO6.below hb9
  replace hO8 := hO8.below hb9
  replace hR0 := hR0.below hb9
  replace qbx_0 := keepcell qbx_0 hb9
  replace qbx_1 := keepcell qbx_1 hb9
  replace qbx_2 := keepcell qbx_2 hb9
  replace qpw_0 := keepcell qpw_0 hb9
  replace qpw_1 := keepcell qpw_1 hb9
  replace qpw_2 := keepcell qpw_2 hb9
  replace qbx6_0 := keepcell qbx6_0 hb9
  replace qbx6_1 := keepcell qbx6_1 hb9
  replace qbx6_2 := keepcell qbx6_2 hb9
  refine (eqLayout_any _ _ _ _ (kp (firstKnot ⟨a0_0, a0_1, xs0⟩)).length _ _ (kp (firstKnot ⟨a0_0, a0_1, xs0⟩)) _ hO8.rd hO4.rd (by omega)).mono ?_
  rintro e w10 ⟨rfl, hb10⟩
  have hz10 := hb10.size
  have hB10 : Below W.heap.size W w10 := hB9.trans (hb10.mono hs9)
  have hs10 : W.heap.size ≤ w10.heap.size := hB10.size
  replace hO4 := hO4.below hb10
  replace hO6 := hO6.below hb10
  replace hO8 := hO8.below hb10
  replace hR0 := hR0.below hb10
  replace qbx_0 := keepcell qbx_0 hb10
  replace qbx_1 := keepcell qbx_1 hb10
  replace qbx_2 := keepcell qbx_2 hb10
  replace qpw_0 := keepcell qpw_0 hb10
  replace qpw_1 := keepcell qpw_1 hb10
  replace qpw_2 := keepcell qpw_2 hb10
  replace qbx6_0 := keepcell qbx6_0 hb10
  replace qbx6_1 := keepcell qbx6_1 hb10
  replace qbx6_2 := keepcell qbx6_2 hb10
  replace qpg_0 := keepcell qpg_0 hb10
  replace qpg_1 := keepcell qpg_1 hb10
  replace qpg_2 := keepcell qpg_2 hb10
  clear hb10
  go_wp2_with fail
  go_region_held3 (fun v => v.cell? ⟨bx, 0, none⟩ = some (.int .i64 a0_0) ∧ v.cell? ⟨bx, 1, none⟩ = some (.int .i64 a0_1) ∧ v.cell? ⟨bx, 2, none⟩ = some (.slice A0 n0 c0) ∧ v.cell? ⟨bx6, 0, none⟩ = some (.int .i64 a0_0) ∧ v.cell? ⟨bx6, 1, none⟩ = some (.int .i64 a0_1) ∧ v.cell? ⟨bx6, 2, none⟩ = some (.slice A_6 n0 c_6))
    (first | (go_split_ands; refine ⟨?_, ?_, ?_, ?_, ?_, ?_⟩ <;> first | (exact keepcell (by assumption) (by assumption)) | (go_keep)) | (go_keep))
    (first
      | (go_at_call 17; refine (toLayout_any a0_0 a0_1 A0 n0 c0 xs0 _ ?_ (by omega)).mono ?_; (first | exact hR0 | exact hR0.below ((Below.refl _ _).drew)); rintro e w11 ⟨A_11, c_11, rfl, hk_11, hO11, hb11⟩)
      | (go_at_call 20; refine (eqLayout_any _ _ _ _ n0 _ _ xs0 _ (Own.rd (Own.below hO6 (show Below w10.heap.size w10 w11 from ⟨hb11.os, hb11.tape, hb11.output, hb11.size, hb11.block⟩))) hO11.rd (by omega)).mono ?_; rintro e w12 ⟨rfl, hb12⟩))
  all_goals go_split_ands
  have hb11 : Below w10.heap.size w10 w11 := ⟨hb11.os, hb11.tape, hb11.output, hb11.size, hb11.block⟩
  have hz11 := hb11.size
  have hB11 : Below W.heap.size W w11 := hB10.trans (hb11.mono hs10)
  have hs11 : W.heap.size ≤ w11.heap.size := hB11.size
  replace hO4 := hO4.below hb11
  replace hO6 := hO6.below hb11
  replace hO8 := hO8.below hb11
  replace hR0 := hR0.below hb11
  replace qbx_0 := keepcell qbx_0 hb11
  replace qbx_1 := keepcell qbx_1 hb11
  replace qbx_2 := keepcell qbx_2 hb11
  replace qpw_0 := keepcell qpw_0 hb11
  replace qpw_1 := keepcell qpw_1 hb11
  replace qpw_2 := keepcell qpw_2 hb11
  replace qbx6_0 := keepcell qbx6_0 hb11
  replace qbx6_1 := keepcell qbx6_1 hb11
  replace qbx6_2 := keepcell qbx6_2 hb11
  replace qpg_0 := keepcell qpg_0 hb11
  replace qpg_1 := keepcell qpg_1 hb11
  replace qpg_2 := keepcell qpg_2 hb11
  clear hb11
  have hz12 := hb12.size
  have hB12 : Below W.heap.size W w12 := hB11.trans (hb12.mono hs11)
  have hs12 : W.heap.size ≤ w12.heap.size := hB12.size
  replace hO4 := hO4.below hb12
  replace hO6 := hO6.below hb12
  replace hO8 := hO8.below hb12
  replace hR0 := hR0.below hb12
  replace qbx_0 := keepcell qbx_0 hb12
  replace qbx_1 := keepcell qbx_1 hb12
  replace qbx_2 := keepcell qbx_2 hb12
  replace qpw_0 := keepcell qpw_0 hb12
  replace qpw_1 := keepcell qpw_1 hb12
  replace qpw_2 := keepcell qpw_2 hb12
  replace qbx6_0 := keepcell qbx6_0 hb12
  replace qbx6_1 := keepcell qbx6_1 hb12
  replace qbx6_2 := keepcell qbx6_2 hb12
  replace qpg_0 := keepcell qpg_0 hb12
  replace qpg_1 := keepcell qpg_1 hb12
  replace qpg_2 := keepcell qpg_2 hb12
  clear hb12
  go_wp2_with fail
  refine (markLayout_any _ _ _ _ _ _ _ (1) _ _ hO6 (by omega) (by omega) (by omega)).mono ?_
  rintro e w13 ⟨rfl, hM, hg13⟩
  clear hO6
  have hO6 := hM
  clear hM
  have hz13 := hg13.size
  have hB13 : Below W.heap.size W w13 := below_only hB12 hg13 hs12 (by have := hbx.out; have := hpw.out; have := hbx6.out; have := hpg.out; omega)
  have hs13 : W.heap.size ≤ w13.heap.size := hB13.size
  replace hO4 := hO4.only hg13 (by have := hbx.out; have := hpw.out; have := hbx6.out; have := hpg.out; omega)
  replace hO8 := hO8.only hg13 (by have := hbx.out; have := hpw.out; have := hbx6.out; have := hpg.out; omega)
  replace qbx_0 := only_cell qbx_0 hg13 (by have := hbx.out; have := hpw.out; have := hbx6.out; have := hpg.out; omega)
  replace qbx_1 := only_cell qbx_1 hg13 (by have := hbx.out; have := hpw.out; have := hbx6.out; have := hpg.out; omega)
  replace qbx_2 := only_cell qbx_2 hg13 (by have := hbx.out; have := hpw.out; have := hbx6.out; have := hpg.out; omega)
  replace qpw_0 := only_cell qpw_0 hg13 (by have := hbx.out; have := hpw.out; have := hbx6.out; have := hpg.out; omega)
  replace qpw_1 := only_cell qpw_1 hg13 (by have := hbx.out; have := hpw.out; have := hbx6.out; have := hpg.out; omega)
  replace qpw_2 := only_cell qpw_2 hg13 (by have := hbx.out; have := hpw.out; have := hbx6.out; have := hpg.out; omega)
  replace qbx6_0 := only_cell qbx6_0 hg13 (by have := hbx.out; have := hpw.out; have := hbx6.out; have := hpg.out; omega)
  replace qbx6_1 := only_cell qbx6_1 hg13 (by have := hbx.out; have := hpw.out; have := hbx6.out; have := hpg.out; omega)
  replace qbx6_2 := only_cell qbx6_2 hg13 (by have := hbx.out; have := hpw.out; have := hbx6.out; have := hpg.out; omega)
  replace qpg_0 := only_cell qpg_0 hg13 (by have := hbx.out; have := hpw.out; have := hbx6.out; have := hpg.out; omega)
  replace qpg_1 := only_cell qpg_1 hg13 (by have := hbx.out; have := hpw.out; have := hbx6.out; have := hpg.out; omega)
  replace qpg_2 := only_cell qpg_2 hg13 (by have := hbx.out; have := hpw.out; have := hbx6.out; have := hpg.out; omega)
  replace hR0 := hR00_.below hB13
  go_wp2_with fail
  refine (eqLayout_any _ _ _ _ (kp (firstKnot ⟨a0_0, a0_1, xs0⟩)).length _ _ (kp (firstKnot ⟨a0_0, a0_1, xs0⟩)) _ hO8.rd hO4.rd (by omega)).mono ?_
  rintro e w14 ⟨rfl, hb14⟩
  have hz14 := hb14.size
  have hB14 : Below W.heap.size W w14 := hB13.trans (hb14.mono hs13)
  have hs14 : W.heap.size ≤ w14.heap.size := hB14.size
  replace hO4 := hO4.below hb14
  replace hO8 := hO8.below hb14
  replace hR0 := hR0.below hb14
  replace qbx_0 := keepcell qbx_0 hb14
  replace qbx_1 := keepcell qbx_1 hb14
  replace qbx_2 := keepcell qbx_2 hb14
  replace qpw_0 := keepcell qpw_0 hb14
  replace qpw_1 := keepcell qpw_1 hb14
  replace qpw_2 := keepcell qpw_2 hb14
  replace qbx6_0 := keepcell qbx6_0 hb14
  replace qbx6_1 := keepcell qbx6_1 hb14
  replace qbx6_2 := keepcell qbx6_2 hb14
  replace qpg_0 := keepcell qpg_0 hb14
  replace qpg_1 := keepcell qpg_1 hb14
  replace qpg_2 := keepcell qpg_2 hb14
  clear hb14
  go_wp2_with fail
  refine (markLayout_any _ _ _ _ _ _ _ (1) _ _ hO8 (by omega) (by omega) (by omega)).mono ?_
  rintro e w15 ⟨rfl, hM, hg15⟩
  clear hO8
  have hO8 := hM
  clear hM
  have hz15 := hg15.size
  have hB15 : Below W.heap.size W w15 := below_only hB14 hg15 hs14 (by have := hbx.out; have := hpw.out; have := hbx6.out; have := hpg.out; omega)
  have hs15 : W.heap.size ≤ w15.heap.size := hB15.size
  replace hO4 := hO4.only hg15 (by have := hbx.out; have := hpw.out; have := hbx6.out; have := hpg.out; omega)
  replace qbx_0 := only_cell qbx_0 hg15 (by have := hbx.out; have := hpw.out; have := hbx6.out; have := hpg.out; omega)
  replace qbx_1 := only_cell qbx_1 hg15 (by have := hbx.out; have := hpw.out; have := hbx6.out; have := hpg.out; omega)
  replace qbx_2 := only_cell qbx_2 hg15 (by have := hbx.out; have := hpw.out; have := hbx6.out; have := hpg.out; omega)
  replace qpw_0 := only_cell qpw_0 hg15 (by have := hbx.out; have := hpw.out; have := hbx6.out; have := hpg.out; omega)
  replace qpw_1 := only_cell qpw_1 hg15 (by have := hbx.out; have := hpw.out; have := hbx6.out; have := hpg.out; omega)
  replace qpw_2 := only_cell qpw_2 hg15 (by have := hbx.out; have := hpw.out; have := hbx6.out; have := hpg.out; omega)
  replace qbx6_0 := only_cell qbx6_0 hg15 (by have := hbx.out; have := hpw.out; have := hbx6.out; have := hpg.out; omega)
  replace qbx6_1 := only_cell qbx6_1 hg15 (by have := hbx.out; have := hpw.out; have := hbx6.out; have := hpg.out; omega)
  replace qbx6_2 := only_cell qbx6_2 hg15 (by have := hbx.out; have := hpw.out; have := hbx6.out; have := hpg.out; omega)
  replace qpg_0 := only_cell qpg_0 hg15 (by have := hbx.out; have := hpw.out; have := hbx6.out; have := hpg.out; omega)
  replace qpg_1 := only_cell qpg_1 hg15 (by have := hbx.out; have := hpw.out; have := hbx6.out; have := hpg.out; omega)
  replace qpg_2 := only_cell qpg_2 hg15 (by have := hbx.out; have := hpw.out; have := hbx6.out; have := hpg.out; omega)
  replace hR0 := hR00_.below hB15
  go_wp2_with fail
  refine (heldLayout_any _ _ _ _ _ (1) _ hO8.rd (by omega) (by omega) (by omega)).mono ?_
  rintro e w16 ⟨rfl, hb16⟩
  have hz16 := hb16.size
  have hB16 : Below W.heap.size W w16 := hB15.trans (hb16.mono hs15)
  have hs16 : W.heap.size ≤ w16.heap.size := hB16.size
  replace hO4 := hO4.below hb16
  replace hO8 := hO8.below hb16
  replace hR0 := hR0.below hb16
  replace qbx_0 := keepcell qbx_0 hb16
  replace qbx_1 := keepcell qbx_1 hb16
  replace qbx_2 := keepcell qbx_2 hb16
  replace qpw_0 := keepcell qpw_0 hb16
  replace qpw_1 := keepcell qpw_1 hb16
  replace qpw_2 := keepcell qpw_2 hb16
  replace qbx6_0 := keepcell qbx6_0 hb16
  replace qbx6_1 := keepcell qbx6_1 hb16
  replace qbx6_2 := keepcell qbx6_2 hb16
  replace qpg_0 := keepcell qpg_0 hb16
  replace qpg_1 := keepcell qpg_1 hb16
  replace qpg_2 := keepcell qpg_2 hb16
  clear hb16
  go_wp2_with fail
  refine (toLayout_any a0_0 a0_1 A0 n0 c0 xs0 _ hR0 (by omega)).mono ?_
  rintro e w17 ⟨A_17, c_17, rfl, hk_17, hO17, hb17⟩
  have hz17 := hb17.size
  have hB17 : Below W.heap.size W w17 := hB16.trans (hb17.mono hs16)
  have hs17 : W.heap.size ≤ w17.heap.size := hB17.size
  replace hO4 := hO4.below hb17
  replace hO8 := hO8.below hb17
  replace hR0 := hR0.below hb17
  replace qbx_0 := keepcell qbx_0 hb17
  replace qbx_1 := keepcell qbx_1 hb17
  replace qbx_2 := keepcell qbx_2 hb17
  replace qpw_0 := keepcell qpw_0 hb17
  replace qpw_1 := keepcell qpw_1 hb17
  replace qpw_2 := keepcell qpw_2 hb17
  replace qbx6_0 := keepcell qbx6_0 hb17
  replace qbx6_1 := keepcell qbx6_1 hb17
  replace qbx6_2 := keepcell qbx6_2 hb17
  replace qpg_0 := keepcell qpg_0 hb17
  replace qpg_1 := keepcell qpg_1 hb17
  replace qpg_2 := keepcell qpg_2 hb17
  clear hb17
  go_wp2_with fail
  refine (knotI_all _ _ _ _ _ xs0 _ (hO17.rd) (by omega)).mono ?_
  rintro e w18 ⟨A_18, n_18, c_18, rfl, hk_18, hO18, hb18⟩
  have hz18 := hb18.size
  have hB18 : Below W.heap.size W w18 := hB17.trans (hb18.mono hs17)
  have hs18 : W.heap.size ≤ w18.heap.size := hB18.size
  replace hO4 := hO4.below hb18
  replace hO8 := hO8.below hb18
  replace hO17 := hO17.below hb18
  replace hR0 := hR0.below hb18
  replace qbx_0 := keepcell qbx_0 hb18
  replace qbx_1 := keepcell qbx_1 hb18
  replace qbx_2 := keepcell qbx_2 hb18
  replace qpw_0 := keepcell qpw_0 hb18
  replace qpw_1 := keepcell qpw_1 hb18
  replace qpw_2 := keepcell qpw_2 hb18
  replace qbx6_0 := keepcell qbx6_0 hb18
  replace qbx6_1 := keepcell qbx6_1 hb18
  replace qbx6_2 := keepcell qbx6_2 hb18
  replace qpg_0 := keepcell qpg_0 hb18
  replace qpg_1 := keepcell qpg_1 hb18
  replace qpg_2 := keepcell qpg_2 hb18
  clear hb18
  obtain rfl := hO18.len
  have qbx_0_n := keepcell qbx_0 ((Below.refl _ _).alloc (Nat.le_refl _) (.cells #[.int .i64 (kw (firstKnot ⟨a0_0, a0_1, xs0⟩)), .int .i64 (kh (firstKnot ⟨a0_0, a0_1, xs0⟩)), .slice A_18 (kp (firstKnot ⟨a0_0, a0_1, xs0⟩)).length c_18] 30))
  have qbx_1_n := keepcell qbx_1 ((Below.refl _ _).alloc (Nat.le_refl _) (.cells #[.int .i64 (kw (firstKnot ⟨a0_0, a0_1, xs0⟩)), .int .i64 (kh (firstKnot ⟨a0_0, a0_1, xs0⟩)), .slice A_18 (kp (firstKnot ⟨a0_0, a0_1, xs0⟩)).length c_18] 30))
  have qbx_2_n := keepcell qbx_2 ((Below.refl _ _).alloc (Nat.le_refl _) (.cells #[.int .i64 (kw (firstKnot ⟨a0_0, a0_1, xs0⟩)), .int .i64 (kh (firstKnot ⟨a0_0, a0_1, xs0⟩)), .slice A_18 (kp (firstKnot ⟨a0_0, a0_1, xs0⟩)).length c_18] 30))
  have qpw_0_n := keepcell qpw_0 ((Below.refl _ _).alloc (Nat.le_refl _) (.cells #[.int .i64 (kw (firstKnot ⟨a0_0, a0_1, xs0⟩)), .int .i64 (kh (firstKnot ⟨a0_0, a0_1, xs0⟩)), .slice A_18 (kp (firstKnot ⟨a0_0, a0_1, xs0⟩)).length c_18] 30))
  have qpw_1_n := keepcell qpw_1 ((Below.refl _ _).alloc (Nat.le_refl _) (.cells #[.int .i64 (kw (firstKnot ⟨a0_0, a0_1, xs0⟩)), .int .i64 (kh (firstKnot ⟨a0_0, a0_1, xs0⟩)), .slice A_18 (kp (firstKnot ⟨a0_0, a0_1, xs0⟩)).length c_18] 30))
  have qpw_2_n := keepcell qpw_2 ((Below.refl _ _).alloc (Nat.le_refl _) (.cells #[.int .i64 (kw (firstKnot ⟨a0_0, a0_1, xs0⟩)), .int .i64 (kh (firstKnot ⟨a0_0, a0_1, xs0⟩)), .slice A_18 (kp (firstKnot ⟨a0_0, a0_1, xs0⟩)).length c_18] 30))
  have qbx6_0_n := keepcell qbx6_0 ((Below.refl _ _).alloc (Nat.le_refl _) (.cells #[.int .i64 (kw (firstKnot ⟨a0_0, a0_1, xs0⟩)), .int .i64 (kh (firstKnot ⟨a0_0, a0_1, xs0⟩)), .slice A_18 (kp (firstKnot ⟨a0_0, a0_1, xs0⟩)).length c_18] 30))
  have qbx6_1_n := keepcell qbx6_1 ((Below.refl _ _).alloc (Nat.le_refl _) (.cells #[.int .i64 (kw (firstKnot ⟨a0_0, a0_1, xs0⟩)), .int .i64 (kh (firstKnot ⟨a0_0, a0_1, xs0⟩)), .slice A_18 (kp (firstKnot ⟨a0_0, a0_1, xs0⟩)).length c_18] 30))
  have qbx6_2_n := keepcell qbx6_2 ((Below.refl _ _).alloc (Nat.le_refl _) (.cells #[.int .i64 (kw (firstKnot ⟨a0_0, a0_1, xs0⟩)), .int .i64 (kh (firstKnot ⟨a0_0, a0_1, xs0⟩)), .slice A_18 (kp (firstKnot ⟨a0_0, a0_1, xs0⟩)).length c_18] 30))
  have qpg_0_n := keepcell qpg_0 ((Below.refl _ _).alloc (Nat.le_refl _) (.cells #[.int .i64 (kw (firstKnot ⟨a0_0, a0_1, xs0⟩)), .int .i64 (kh (firstKnot ⟨a0_0, a0_1, xs0⟩)), .slice A_18 (kp (firstKnot ⟨a0_0, a0_1, xs0⟩)).length c_18] 30))
  have qpg_1_n := keepcell qpg_1 ((Below.refl _ _).alloc (Nat.le_refl _) (.cells #[.int .i64 (kw (firstKnot ⟨a0_0, a0_1, xs0⟩)), .int .i64 (kh (firstKnot ⟨a0_0, a0_1, xs0⟩)), .slice A_18 (kp (firstKnot ⟨a0_0, a0_1, xs0⟩)).length c_18] 30))
  have qpg_2_n := keepcell qpg_2 ((Below.refl _ _).alloc (Nat.le_refl _) (.cells #[.int .i64 (kw (firstKnot ⟨a0_0, a0_1, xs0⟩)), .int .i64 (kh (firstKnot ⟨a0_0, a0_1, xs0⟩)), .slice A_18 (kp (firstKnot ⟨a0_0, a0_1, xs0⟩)).length c_18] 30))
  go_wp2_with fail
  clear qbx_0_n qbx_1_n qbx_2_n qpw_0_n qpw_1_n qpw_2_n qbx6_0_n qbx6_1_n qbx6_2_n qpg_0_n qpg_1_n qpg_2_n
  obtain ⟨ph, hph⟩ : ∃ b, Hid (b = w18.heap.size) := ⟨_, rfl⟩
  have qph_0 : (w18.alloc (.cells #[.int .i64 (kw (firstKnot ⟨a0_0, a0_1, xs0⟩)), .int .i64 (kh (firstKnot ⟨a0_0, a0_1, xs0⟩)), .slice A_18 (kp (firstKnot ⟨a0_0, a0_1, xs0⟩)).length c_18] 30)).cell? ⟨ph, 0, none⟩ = some (.int .i64 (kw (firstKnot ⟨a0_0, a0_1, xs0⟩))) := by rw [hph.out, cell_of_row _ _ _ _ _ _ (heap_alloc_new w18 _)]; rfl
  have qph_1 : (w18.alloc (.cells #[.int .i64 (kw (firstKnot ⟨a0_0, a0_1, xs0⟩)), .int .i64 (kh (firstKnot ⟨a0_0, a0_1, xs0⟩)), .slice A_18 (kp (firstKnot ⟨a0_0, a0_1, xs0⟩)).length c_18] 30)).cell? ⟨ph, 1, none⟩ = some (.int .i64 (kh (firstKnot ⟨a0_0, a0_1, xs0⟩))) := by rw [hph.out, cell_of_row _ _ _ _ _ _ (heap_alloc_new w18 _)]; rfl
  have qph_2 : (w18.alloc (.cells #[.int .i64 (kw (firstKnot ⟨a0_0, a0_1, xs0⟩)), .int .i64 (kh (firstKnot ⟨a0_0, a0_1, xs0⟩)), .slice A_18 (kp (firstKnot ⟨a0_0, a0_1, xs0⟩)).length c_18] 30)).cell? ⟨ph, 2, none⟩ = some (.slice A_18 (kp (firstKnot ⟨a0_0, a0_1, xs0⟩)).length c_18) := by rw [hph.out, cell_of_row _ _ _ _ _ _ (heap_alloc_new w18 _)]; rfl
  have hb19 : Below w18.heap.size w18 (w18.alloc (.cells #[.int .i64 (kw (firstKnot ⟨a0_0, a0_1, xs0⟩)), .int .i64 (kh (firstKnot ⟨a0_0, a0_1, xs0⟩)), .slice A_18 (kp (firstKnot ⟨a0_0, a0_1, xs0⟩)).length c_18] 30)) := (Below.refl _ _).alloc (Nat.le_refl _) _
  have hz19 : w18.heap.size < (w18.alloc (.cells #[.int .i64 (kw (firstKnot ⟨a0_0, a0_1, xs0⟩)), .int .i64 (kh (firstKnot ⟨a0_0, a0_1, xs0⟩)), .slice A_18 (kp (firstKnot ⟨a0_0, a0_1, xs0⟩)).length c_18] 30)).heap.size := by simp
  rw [← hph.out]
  generalize (w18.alloc (.cells #[.int .i64 (kw (firstKnot ⟨a0_0, a0_1, xs0⟩)), .int .i64 (kh (firstKnot ⟨a0_0, a0_1, xs0⟩)), .slice A_18 (kp (firstKnot ⟨a0_0, a0_1, xs0⟩)).length c_18] 30)) = w19 at qph_0 qph_1 qph_2 hb19 hz19 ⊢
  have hB19 : Below W.heap.size W w19 := hB18.trans (hb19.mono hs18)
  have hs19 : W.heap.size ≤ w19.heap.size := hB19.size
  replace hO4 := hO4.below hb19
  replace hO8 := hO8.below hb19
  replace hO18 := hO18.below hb19
  replace hR0 := hR0.below hb19
  replace qbx_0 := keepcell qbx_0 hb19
  replace qbx_1 := keepcell qbx_1 hb19
  replace qbx_2 := keepcell qbx_2 hb19
  replace qpw_0 := keepcell qpw_0 hb19
  replace qpw_1 := keepcell qpw_1 hb19
  replace qpw_2 := keepcell qpw_2 hb19
  replace qbx6_0 := keepcell qbx6_0 hb19
  replace qbx6_1 := keepcell qbx6_1 hb19
  replace qbx6_2 := keepcell qbx6_2 hb19
  replace qpg_0 := keepcell qpg_0 hb19
  replace qpg_1 := keepcell qpg_1 hb19
  replace qpg_2 := keepcell qpg_2 hb19
  refine (eqLayout_any _ _ _ _ (kp (firstKnot ⟨a0_0, a0_1, xs0⟩)).length _ _ (kp (firstKnot ⟨a0_0, a0_1, xs0⟩)) _ hO18.rd hO4.rd (by omega)).mono ?_
  rintro e w20 ⟨rfl, hb20⟩
  have hz20 := hb20.size
  have hB20 : Below W.heap.size W w20 := hB19.trans (hb20.mono hs19)
  have hs20 : W.heap.size ≤ w20.heap.size := hB20.size
  replace hO4 := hO4.below hb20
  replace hO8 := hO8.below hb20
  replace hO18 := hO18.below hb20
  replace hR0 := hR0.below hb20
  replace qbx_0 := keepcell qbx_0 hb20
  replace qbx_1 := keepcell qbx_1 hb20
  replace qbx_2 := keepcell qbx_2 hb20
  replace qpw_0 := keepcell qpw_0 hb20
  replace qpw_1 := keepcell qpw_1 hb20
  replace qpw_2 := keepcell qpw_2 hb20
  replace qbx6_0 := keepcell qbx6_0 hb20
  replace qbx6_1 := keepcell qbx6_1 hb20
  replace qbx6_2 := keepcell qbx6_2 hb20
  replace qpg_0 := keepcell qpg_0 hb20
  replace qpg_1 := keepcell qpg_1 hb20
  replace qpg_2 := keepcell qpg_2 hb20
  replace qph_0 := keepcell qph_0 hb20
  replace qph_1 := keepcell qph_1 hb20
  replace qph_2 := keepcell qph_2 hb20
  clear hb20
  go_wp2_with fail
  refine (heldLayout_any _ _ _ _ _ (1) _ hO8.rd (by omega) (by omega) (by omega)).mono ?_
  rintro e w21 ⟨rfl, hb21⟩
  have hz21 := hb21.size
  have hB21 : Below W.heap.size W w21 := hB20.trans (hb21.mono hs20)
  have hs21 : W.heap.size ≤ w21.heap.size := hB21.size
  replace hO4 := hO4.below hb21
  replace hO8 := hO8.below hb21
  replace hO18 := hO18.below hb21
  replace hR0 := hR0.below hb21
  replace qbx_0 := keepcell qbx_0 hb21
  replace qbx_1 := keepcell qbx_1 hb21
  replace qbx_2 := keepcell qbx_2 hb21
  replace qpw_0 := keepcell qpw_0 hb21
  replace qpw_1 := keepcell qpw_1 hb21
  replace qpw_2 := keepcell qpw_2 hb21
  replace qbx6_0 := keepcell qbx6_0 hb21
  replace qbx6_1 := keepcell qbx6_1 hb21
  replace qbx6_2 := keepcell qbx6_2 hb21
  replace qpg_0 := keepcell qpg_0 hb21
  replace qpg_1 := keepcell qpg_1 hb21
  replace qpg_2 := keepcell qpg_2 hb21
  replace qph_0 := keepcell qph_0 hb21
  replace qph_1 := keepcell qph_1 hb21
  replace qph_2 := keepcell qph_2 hb21
  clear hb21
  go_wp2_with fail
  go_ret
  exact ⟨rfl, hB21⟩

end Go.Proofs.Ytmjdgplkcocgmaa
