/-
  Contracts: colors around a border; prints.
-/
import Derived.Test.YtkbpehklfjnjjaaScalB
import Derived.Test.YtkbpehklfjnjjaaPlainB
import Derived.Test.YtkbpehklfjnjjaaFlatInt
set_option linter.unusedVariables false
namespace Go.Proofs.Ytkbpehklfjnjjaa
open Go.RowKit

theorem allWithin_any (A : Option Addr) (n c : Nat) (xs : List Int) (a b : Int) (W : World) (h : Rd W A n 1 xs intC) (hn : n ≤ 4194304) :
    Calls Try.prog 54 #[.slice A n c, .int .i64 a, .int .i64 b] W fun e w' => e = .returned (.bool (xs.all (fun n => within n a b))) ∧ W = w' := by
  have hlen := Lib.hid h.len
  go_enter Try.func54, Try.ntmps54
  go_wp2
  go_loop [11] (fun i => ∃ k : Nat, k ≤ n ∧ i = .int .i64 k ∧ Hid ((xs.take k).all (fun n => within n a b) = true)) (fun i => n - (intOf i).toNat)
  case atStart => exact ⟨0, Nat.zero_le _, rfl, by simp [Hid]⟩
  case round =>
    obtain ⟨k, hk, rfl, hall⟩ := hrel
    by_cases hlt : k < n
    · obtain ⟨o, off, x, rfl, hbW, hx, h0⟩ := h.int hlt (Below.refl _ _)
      have hX := Lib.hid hx
      clear hx
      by_cases hb : within x a b = true
      · go_wp2_with (go_at_call 48; refine (within_any _ _ _ _).mono ?_; rintro e w' ⟨rfl, rfl⟩)
        go_round
        case rel => exact ⟨k + 1, by omega, by go_num, all_take_succ hX.out hall.out hb⟩
        case measure => simp [intOf]; omega
      · have hb' : within x a b = false := by simpa using hb
        go_wp2_with (go_at_call 48; refine (within_any _ _ _ _).mono ?_; rintro e w' ⟨rfl, rfl⟩)
        go_ret
        exact ⟨ret_b (all_no hX.out hb').symm, rfl⟩
    · go_wp2
      go_ret
      obtain rfl : k = n := by omega
      have hl := hlen.out
      exact ⟨ret_b (by rw [← hall.out, List.take_of_length_le (by omega)]), rfl⟩

theorem printsOkI_any (A : Option Addr) (n c : Nat) (xs : List Int) (W : World) (h : Rd W A n 1 xs intC) (hn : n ≤ 4194304) :
    Calls Try.prog 30 #[.slice A n c] W fun e w' => e = .returned (.bool (printsOk xs)) ∧ Below W.heap.size W w' := by
  have hlen := h.len
  by_cases h6 : n = 6
  · subst h6
    go_enter Try.func30, Try.ntmps30
    go_wp2_with (go_at_call 54; refine (allWithin_any _ _ _ xs _ _ _ h (by omega)).mono ?_; rintro e w' ⟨rfl, rfl⟩)
    go_ret
    exact ⟨ret_b (by unfold printsOk; rw [hlen]; simp), by (repeat (first | exact Below.refl _ _ | assumption | (refine Below.drew ?_) | (refine below_drewN ?_ _) | (refine Below.alloc ?_ (by first | exact Nat.le_refl _ | (simp; done) | (simp; omega) | omega) _) | (refine Below.setCell ?_ (by first | exact Nat.le_refl _ | (simp; done) | (simp; omega) | omega) _) | (refine Below.trans ?_ (Below.mono (by assumption) (by first | exact Nat.le_refl _ | (simp; done) | (simp; omega) | omega)))))⟩
  · have h6' : ((n : Int) == 6) = false := by rw [beq_eq_false_iff_ne]; omega
    have hX : false = printsOk xs := by unfold printsOk; rw [hlen]; simp [h6]
    have HX := Lib.hid hX
    clear hX hlen h6
    go_enter Try.func30, Try.ntmps30
    go_wp2_with fail
    go_ret
    exact ⟨ret_b HX.out, by (repeat (first | exact Below.refl _ _ | assumption | (refine Below.drew ?_) | (refine below_drewN ?_ _) | (refine Below.alloc ?_ (by first | exact Nat.le_refl _ | (simp; done) | (simp; omega) | omega) _) | (refine Below.setCell ?_ (by first | exact Nat.le_refl _ | (simp; done) | (simp; omega) | omega) _) | (refine Below.trans ?_ (Below.mono (by assumption) (by first | exact Nat.le_refl _ | (simp; done) | (simp; omega) | omega)))))⟩

theorem printsOkS_any (A : Option Addr) (n c : Nat) (xs : List Int) (W : World) (h : Rd W A n 1 xs intC) (hn : n ≤ 4194304) :
    Calls Try.prog 26 #[.slice A n c] W fun e w' => e = .returned (.bool (printsOk xs)) ∧ Below W.heap.size W w' := by
  have hlen := Lib.hid h.len
  go_enter Try.func26, Try.ntmps26
  go_wp2
  go_loop [3] (fun i => ∃ k : Nat, k ≤ n ∧ i = .int .i64 k ∧ Hid ((xs.take k).all (fun n => within n 0 2) = true)) (fun i => n - (intOf i).toNat)
  case atStart => exact ⟨0, Nat.zero_le _, rfl, by simp [Hid]⟩
  case round =>
    obtain ⟨k, hk, rfl, hall⟩ := hrel
    by_cases hlt : k < n
    · obtain ⟨o, off, x, rfl, hbW, hx, h0⟩ := h.int hlt (Below.refl _ _)
      have hX := Lib.hid hx
      clear hx
      by_cases hb : within x 0 2 = true
      · go_wp2_with (go_at_call 44; refine (l01In_any _ _ _ _).mono ?_; rintro e w' ⟨rfl, rfl⟩)
        go_round
        case rel => exact ⟨k + 1, by omega, by go_num, all_take_succ hX.out hall.out hb⟩
        case measure => simp [intOf]; omega
      · have hb' : within x 0 2 = false := by simpa using hb
        go_wp2_with (go_at_call 44; refine (l01In_any _ _ _ _).mono ?_; rintro e w' ⟨rfl, rfl⟩)
        go_ret
        exact ⟨ret_b (by unfold printsOk; rw [all_no hX.out hb', Bool.and_false]), by (repeat (first | exact Below.refl _ _ | assumption | (refine Below.drew ?_) | (refine below_drewN ?_ _) | (refine Below.alloc ?_ (by first | exact Nat.le_refl _ | (simp; done) | (simp; omega) | omega) _) | (refine Below.setCell ?_ (by first | exact Nat.le_refl _ | (simp; done) | (simp; omega) | omega) _) | (refine Below.trans ?_ (Below.mono (by assumption) (by first | exact Nat.le_refl _ | (simp; done) | (simp; omega) | omega)))))⟩
    · go_wp2
      go_ret
      obtain rfl : k = n := by omega
      have hl := hlen.out
      have ha := hall.out
      rw [List.take_of_length_le (by omega)] at ha
      exact ⟨ret_b (by unfold printsOk; rw [ha, hl, Bool.and_true, Bool.eq_iff_iff]; simp; omega), by (repeat (first | exact Below.refl _ _ | assumption | (refine Below.drew ?_) | (refine below_drewN ?_ _) | (refine Below.alloc ?_ (by first | exact Nat.le_refl _ | (simp; done) | (simp; omega) | omega) _) | (refine Below.setCell ?_ (by first | exact Nat.le_refl _ | (simp; done) | (simp; omega) | omega) _) | (refine Below.trans ?_ (Below.mono (by assumption) (by first | exact Nat.le_refl _ | (simp; done) | (simp; omega) | omega)))))⟩

end Go.Proofs.Ytkbpehklfjnjjaa
