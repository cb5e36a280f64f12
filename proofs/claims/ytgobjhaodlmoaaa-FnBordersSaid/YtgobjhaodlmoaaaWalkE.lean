/-
  The walk of the law: with spacers every border fits.
-/
import Derived.Test.YtgobjhaodlmoaaaDrawB
set_option linter.unusedVariables false
namespace Go.Proofs.Ytgobjhaodlmoaaa
open Go.RowKit

set_option maxRecDepth 100000 in
set_option maxHeartbeats 2000000 in
theorem walk_FnBorders (A0 : Option Addr) (n0 c0 : Nat) (xs0 : List UInt8) (W : World) (hk0_ : n0 ≤ c0) (hm0_ : c0 ≤ maxLen) (hR0 : Rd W A0 n0 1 xs0 byteC) :
    Calls Try.prog 11 #[.slice A0 n0 c0] W fun e w' => e = .returned (.bool true) ∧ Below W.heap.size W w' := by
  have hn63 : n0 ≤ 9223372036854775807 := by unfold maxLen at hm0_; omega
  rcases Nat.lt_or_ge 1048576 n0 with hn0 | hn0
  · have hbig : decide ((1048576 : Int) < n0) = true := by simpa using (by omega : (1048576 : Int) < n0)
    go_enter Try.func11, Try.ntmps11
    go_wp2_with fail
    refine (big_any A0 n0 c0 _ hn63).mono ?_
    rintro e w' ⟨rfl, rfl⟩
    go_wp2_with fail
    go_ret
    exact ⟨rfl, by (repeat (first | exact Below.refl _ _ | assumption | (refine Below.drew ?_) | (refine below_drewN ?_ _) | (refine Below.alloc ?_ (by first | exact Nat.le_refl _ | (simp; done) | (simp; omega) | omega) _) | (refine Below.setCell ?_ (by first | exact Nat.le_refl _ | (simp; done) | (simp; omega) | omega) _) | (refine Below.trans ?_ (Below.mono (by assumption) (by first | exact Nat.le_refl _ | (simp; done) | (simp; omega) | omega)))))⟩
  · have hbig : decide ((1048576 : Int) < n0) = false := by simpa using (by omega : ¬ (1048576 : Int) < n0)
    go_enter Try.func11, Try.ntmps11
    go_wp2_with fail
    refine (big_any A0 n0 c0 _ hn63).mono ?_
    rintro e w' ⟨rfl, rfl⟩
    go_wp2_with fail
    refine (drawBorder_any A0 n0 c0 xs0 _ hR0 hn0).mono ?_
    rintro e w1 ⟨u, d, rfl, hu0, hu1, hd0, hd1, hb1⟩
    have hz1 := hb1.size
    go_wp2_with fail
    have hRa := hR0.below (hb1.alloc (by omega) (.cells #[.int .i64 u, .int .i64 d] 46))
    refine (at_any A0 n0 c0 xs0 0 _ hRa hn0 (by omega) (by omega)).mono ?_
    rintro e w' ⟨a, rfl, ha0, ha1, rfl⟩
    go_wp2_with fail
    refine (at_any A0 n0 c0 xs0 1 _ hRa hn0 (by omega) (by omega)).mono ?_
    rintro e w' ⟨b, rfl, hb0, hb1', rfl⟩
    have hbo : borderOk u d = true := by unfold borderOk; rw [Bool.and_eq_true, within_iff, within_iff]; omega
    have hs : areSides (1 + a) (1 + b) = true := by unfold areSides; rw [Bool.and_eq_true, within_iff, within_iff]; omega
    have F := spacer_facts (w := 1 + a) (h := 1 + b) hbo (by omega) (by omega) (by omega) (by omega)
    have O1 := Lib.hid (show outer1 u d (1 + a) (1 + b) = 1 + a + 2 * d by unfold outer1; rw [if_pos ⟨hbo, hs⟩])
    have O2 := Lib.hid (show outer2 u d (1 + a) (1 + b) = 1 + b + 2 * d by unfold outer2; rw [if_pos ⟨hbo, hs⟩])
    have B1 := best_one hs
    go_wp2_with fail
    refine (spacerI_any _ _ _ _ _).mono ?_
    rintro e w2 ⟨rfl, hb2⟩
    obtain ⟨x, hx⟩ : ∃ x, Hid (x = spacer1 u d (1 + a) (1 + b)) := ⟨_, rfl⟩
    obtain ⟨y, hy⟩ : ∃ x, Hid (x = spacer2 u d (1 + a) (1 + b)) := ⟨_, rfl⟩
    rw [← hx.out, ← hy.out] at F ⊢
    obtain ⟨x0, x1, y0, y1, hfit, hzero, hunits, hmeet1, hmeet2⟩ := F
    have hs2 : areSides (1 + a + x) (1 + b + y) = true := by unfold areSides; rw [Bool.and_eq_true, within_iff, within_iff]; omega
    have hb2' : both (1 + a + x) (1 + b + y) u = true := by
      have hf := hfit
      unfold fitsBorder at hf
      rw [Bool.and_eq_true, Bool.and_eq_true] at hf
      unfold both
      rw [hf.1.2, hf.2]
      rfl
    have G := best_ge hs2 hu0 (by omega) hb2'
    obtain ⟨N, hN⟩ : ∃ q, Hid (q = unitsAround u d (1 + a + x) (1 + b + y)) := ⟨_, rfl⟩
    rw [← hN.out] at hunits
    have q0 : w2.cell? ⟨w1.heap.size, 0, none⟩ = some (.int .i64 u) := keepcell (by rw [cell_of_row _ _ _ _ _ _ (heap_alloc_new w1 _)]; rfl) hb2
    have q1 : w2.cell? ⟨w1.heap.size, 1, none⟩ = some (.int .i64 d) := keepcell (by rw [cell_of_row _ _ _ _ _ _ (heap_alloc_new w1 _)]; rfl) hb2
    have hB : Below W.heap.size W w2 := by (repeat (first | exact Below.refl _ _ | assumption | (refine Below.drew ?_) | (refine below_drewN ?_ _) | (refine Below.alloc ?_ (by first | exact Nat.le_refl _ | (simp; done) | (simp; omega) | omega) _) | (refine Below.setCell ?_ (by first | exact Nat.le_refl _ | (simp; done) | (simp; omega) | omega) _) | (refine Below.trans ?_ (Below.mono (by assumption) (by first | exact Nat.le_refl _ | (simp; done) | (simp; omega) | omega)))))
    clear hs2 hb2' hx hy hb1 hb2 hz1 hR0 hRa hbig hn63 hk0_ hm0_ hs
    go_wp2_with fail
    refine (unitsAroundI_any _ _ _ _ _).mono ?_
    rintro e w3 ⟨rfl, hb3⟩
    rw [← hN.out]
    replace q0 := keepcell q0 hb3
    replace q1 := keepcell q1 hb3
    replace hB := hB.trans (hb3.mono hB.size)
    clear hb3
    go_wp2_with fail
    refine (fitsBorderI_any _ _ _ _ _).mono ?_
    rintro e w4 ⟨rfl, hb4⟩
    replace q0 := keepcell q0 hb4
    replace q1 := keepcell q1 hb4
    replace hB := hB.trans (hb4.mono hB.size)
    clear hb4
    have hcd : ∀ k, colorsMeet u d (1 + a + x) (1 + b + y) k = colorsMeet u d (1 + a + x) (1 + b + y) k := fun _ => rfl
    clear hcd
    obtain ⟨U, hU⟩ : ∃ q, Hid (q = bestUnit (1 + a) (1 + b) 1 200) := ⟨_, rfl⟩
    rw [← hU.out] at B1
    obtain ⟨hU1, hU2, hU3, hU4⟩ := B1
    have HU4 := Lib.hid hU4
    clear hU4
    obtain ⟨V, hV⟩ : ∃ q, Hid (q = bestUnit (1 + a + x) (1 + b + y) u 200) := ⟨_, rfl⟩
    rw [← hV.out] at G
    have hU5 : ((1 + a) % U == 0) = true ∧ ((1 + b) % U == 0) = true := by unfold both at hU3; rw [Bool.and_eq_true] at hU3; exact hU3
    obtain ⟨hU6, hU7⟩ := hU5
    clear hU3
    rcases Bool.eq_false_or_eq_true (x == 0) with hbx | hbx <;> rcases Bool.eq_false_or_eq_true (y == 0) with hby | hby <;> (rw [hbx, hby] at hzero; simp only [Bool.and_true, Bool.and_false, Bool.and_self] at hzero)
    all_goals
      go_wp2_with fail
      refine (fitsBorderI_any _ _ _ _ _).mono ?_
      rintro e w5 ⟨rfl, hb5⟩
      replace q0 := keepcell q0 hb5
      replace q1 := keepcell q1 hb5
      replace hB := hB.trans (hb5.mono hB.size)
      clear hb5
      go_wp2_with fail
      refine (colorsMeetI_any _ _ _ _ _ _).mono ?_
      rintro e w6 ⟨rfl, hb6⟩
      replace q0 := keepcell q0 hb6
      replace q1 := keepcell q1 hb6
      replace hB := hB.trans (hb6.mono hB.size)
      clear hb6
      go_wp2_with fail
      refine (colorsMeetI_any _ _ _ _ _ _).mono ?_
      rintro e w7 ⟨rfl, hb7⟩
      replace q0 := keepcell q0 hb7
      replace q1 := keepcell q1 hb7
      replace hB := hB.trans (hb7.mono hB.size)
      clear hb7
      go_wp2_with fail
      refine (outerI_any _ _ _ _ _).mono ?_
      rintro e w8 ⟨rfl, hb8⟩
      rw [O1.out, O2.out]
      replace q0 := keepcell q0 hb8
      replace q1 := keepcell q1 hb8
      replace hB := hB.trans (hb8.mono hB.size)
      clear hb8
      go_wp2_with fail
      refine (bestUnitI_any _ _ _ _ _).mono ?_
      rintro e w' ⟨rfl, rfl⟩
      rw [← hU.out]
      go_wp2_with fail
      refine (bestUnitI_any _ _ _ _ _).mono ?_
      rintro e w' ⟨rfl, rfl⟩
      rw [← hV.out]
      go_wp2_with fail
      go_loop [13] (fun s => ∃ k : Int, U + 1 ≤ k ∧ k ≤ 201 ∧ s = .int .i64 k) (fun s => (201 - intOf s).toNat)
      case atStart => exact ⟨U + 1, by omega, by omega, rfl⟩
      case round =>
        obtain ⟨k, hk1, hk2, rfl⟩ := hrel
        by_cases hlt : k ≤ 200
        · have hk3 := HU4.out k (by omega) hlt
          unfold both at hk3
          rcases Bool.eq_false_or_eq_true ((1 + a) % k == 0) with hwk | hwk
          · rw [hwk, Bool.true_and] at hk3
            go_wp2_with fail
            go_round
            case rel => exact ⟨k + 1, by omega, by omega, rfl⟩
            case measure => simp [intOf]; omega
          · clear hk3
            go_wp2_with fail
            go_round
            case rel => exact ⟨k + 1, by omega, by omega, rfl⟩
            case measure => simp [intOf]; omega
        · have hnone := best_none
          have hVu : u ≤ V := G
          go_wp2_with (first | (go_at_call 43; refine (borderOkI_any _ _ _).mono ?_; rintro e w9 ⟨rfl, hb9⟩) | (go_at_call 42; refine (bestUnitI_any _ _ _ _ _).mono ?_; rintro e w' ⟨rfl, rfl⟩))
          go_ret
          exact ⟨rfl, hB.trans (hb9.mono hB.size)⟩

end Go.Proofs.Ytgobjhaodlmoaaa
