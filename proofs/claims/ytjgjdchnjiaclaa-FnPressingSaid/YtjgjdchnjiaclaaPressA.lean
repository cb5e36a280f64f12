/-
  Contracts of pressing: which are valid.
-/
import Derived.Test.YtjgjdchnjiaclaaPlainP
import Derived.Test.YtjgjdchnjiaclaaScalA
import Derived.Test.YtjgjdchnjiaclaaFlatBoolSS
set_option linter.unusedVariables false
namespace Go.Proofs.Ytjgjdchnjiaclaa
open Go.RowKit

theorem pressingOkI_any (A : Option Addr) (n c : Nat) (rows : List (List Bool)) (W : World) (h : RdSS W A n rows boolC) (hn : n ≤ 1048576) (hr : ∀ r ∈ rows, r.length ≤ 9223372036854775807) :
    Calls Try.prog 16 #[.slice A n c] W fun e w' => e = .returned (.bool (pressingOk rows)) ∧ W = w' := by
  have HLEN := Lib.hid h.len
  go_enter Try.func16, Try.ntmps16
  go_wp2_with fail
  go_loop [7] (fun i => ∃ k : Nat, k ≤ n ∧ i = .int .i64 k ∧ Hid ((rows.take k).all (pressRow (head0 rows)) = true)) (fun i => n - (intOf i).toNat)
  case atStart => exact ⟨0, Nat.zero_le _, rfl, by simp [Hid]⟩
  case round =>
    obtain ⟨k, hk, rfl, hall⟩ := hrel
    by_cases hlt : k < n
    · obtain ⟨b, off, A1, n1, c1, r, rfl, hbW, hr1, e1, hnc, hrl, hR⟩ := h.at_ hlt (Below.refl _ _)
      obtain ⟨b', off', A0, n0, c0, r0, ee, _, hr0, e0, hnc0, hrl0, hR0⟩ := h.at_ (k := 0) (by omega) (Below.refl _ _)
      obtain ⟨rfl, rfl⟩ : b = b' ∧ off = off' := by injection ee with ee; injection ee with e1 e2; exact ⟨e1, e2⟩
      rw [Nat.add_zero] at e0
      have hh : head0 rows = n0 := by unfold head0; rw [List.getD_eq_getElem?_getD, hr0]; exact hrl0
      have hpr : pressRow (head0 rows) r = (decide (n1 = n0) && decide (n1 ≤ 11)) := by unfold pressRow; rw [hh, hrl]
      have hn1 : n1 ≤ 9223372036854775807 := by rw [← hrl]; exact hr r (List.mem_of_getElem? hr1)
      have hn0 : n0 ≤ 9223372036854775807 := by rw [← hrl0]; exact hr r0 (List.mem_of_getElem? hr0)
      have hpos : (0 : Int) < (n : Int) := by omega
      have HX := Lib.hid hr1
      have HP := Lib.hid hpr
      clear hr1 hr0 hrl hrl0 hh hpr hR hR0 ee
      by_cases c1 : n1 = n0
      · subst c1
        have ht : ((n1 : Int) != (n1 : Int)) = false := by simp
        by_cases c2 : n1 ≤ 11
        · go_wp2
          go_round
          case rel => exact ⟨k + 1, by omega, by go_num, all_take_succ HX.out hall.out (by rw [HP.out]; simp [c2])⟩
          case measure => simp [intOf]; omega
        · go_wp2
          go_ret
          exact ⟨ret_b (press_bad HX.out (by rw [HP.out]; simp [c2])), rfl⟩
      · have ht : ((n1 : Int) != (n0 : Int)) = true := by rw [bne_iff_ne]; omega
        have HC := Lib.hid c1
        clear c1
        go_wp2
        go_ret
        exact ⟨ret_b (press_bad HX.out (by rw [HP.out]; simp [HC.out])), rfl⟩
    · go_wp2_with (go_at_call 51; refine (within_any _ _ _ _).mono ?_; rintro e w' ⟨rfl, rfl⟩)
      go_ret
      obtain rfl : k = n := by omega
      exact ⟨ret_b (press_end HLEN.out hall.out), rfl⟩

theorem pressingOkS_any (A : Option Addr) (n c : Nat) (rows : List (List Bool)) (W : World) (h : RdSS W A n rows boolC) (hn : n ≤ 1048576) (hr : ∀ r ∈ rows, r.length ≤ 9223372036854775807) :
    Calls Try.prog 14 #[.slice A n c] W fun e w' => e = .returned (.bool (pressingOk rows)) ∧ Below W.heap.size W w' := by
  have HLEN := Lib.hid h.len
  by_cases hw : within (n : Int) 1 12 = true
  · go_enter Try.func14, Try.ntmps14
    go_wp2_with (go_at_call 49; refine (l01In_any _ _ _ _).mono ?_; rintro e w' ⟨rfl, rfl⟩)
    go_loopw [3] (fun i wr => ∃ k : Nat, k ≤ n ∧ i = .int .i64 k ∧ Below W.heap.size W wr ∧ Hid ((rows.take k).all (pressRow (head0 rows)) = true)) (fun i _ => n - (intOf i).toNat)
    case atStart => exact ⟨0, Nat.zero_le _, rfl, Below.refl _ _, by simp [Hid]⟩
    case round =>
      obtain ⟨k, hk, rfl, hB, hall⟩ := hrel
      by_cases hlt : k < n
      · obtain ⟨b, off, A1, n1, c1, r, rfl, hbW, hr1, e1, hnc, hrl, hR⟩ := h.at_ hlt hB
        obtain ⟨b', off', A0, n0, c0, r0, ee, _, hr0, e0, hnc0, hrl0, hR0⟩ := h.at_ (k := 0) (by omega) hB
        obtain ⟨rfl, rfl⟩ : b = b' ∧ off = off' := by injection ee with ee; injection ee with e1 e2; exact ⟨e1, e2⟩
        rw [Nat.add_zero] at e0
        have hh : head0 rows = n0 := by unfold head0; rw [List.getD_eq_getElem?_getD, hr0]; exact hrl0
        have hpr : pressRow (head0 rows) r = (decide (n1 = n0) && decide (n1 ≤ 11)) := by unfold pressRow; rw [hh, hrl]
        have hn1 : n1 ≤ 9223372036854775807 := by rw [← hrl]; exact hr r (List.mem_of_getElem? hr1)
        have hn0 : n0 ≤ 9223372036854775807 := by rw [← hrl0]; exact hr r0 (List.mem_of_getElem? hr0)
        have hpos : (0 : Int) < (n : Int) := by omega
        have HX := Lib.hid hr1
        have HP := Lib.hid hpr
        clear hr1 hr0 hrl hrl0 hh hpr hR hR0 ee
        by_cases c1 : n1 = n0
        · subst c1
          have ht : ((n1 : Int) != (n1 : Int)) = false := by simp
          by_cases c2 : n1 ≤ 11
          · go_wp2
            go_quiet (fail)
            go_wp2
            go_roundw
            case rel => exact ⟨k + 1, by omega, by go_num, by (repeat (first | exact Below.refl _ _ | assumption | (refine Below.drew ?_) | (refine below_drewN ?_ _) | (refine Below.alloc ?_ (by first | exact Nat.le_refl _ | (simp; done) | (simp; omega) | omega) _) | (refine Below.setCell ?_ (by first | exact Nat.le_refl _ | (simp; done) | (simp; omega) | omega) _) | (refine Below.trans ?_ (Below.mono (by assumption) (by first | exact Nat.le_refl _ | (simp; done) | (simp; omega) | omega))))), all_take_succ HX.out hall.out (by rw [HP.out]; simp [c2])⟩
            case measure => simp [intOf]; omega
          · go_wp2
            go_quiet (fail)
            go_wp2
            go_ret
            exact ⟨ret_b (press_bad HX.out (by rw [HP.out]; simp [c2])), by (repeat (first | exact Below.refl _ _ | assumption | (refine Below.drew ?_) | (refine below_drewN ?_ _) | (refine Below.alloc ?_ (by first | exact Nat.le_refl _ | (simp; done) | (simp; omega) | omega) _) | (refine Below.setCell ?_ (by first | exact Nat.le_refl _ | (simp; done) | (simp; omega) | omega) _) | (refine Below.trans ?_ (Below.mono (by assumption) (by first | exact Nat.le_refl _ | (simp; done) | (simp; omega) | omega)))))⟩
        · have ht : ((n1 : Int) != (n0 : Int)) = true := by rw [bne_iff_ne]; omega
          have HC := Lib.hid c1
          clear c1
          go_wp2
          go_quiet (fail)
          go_wp2
          go_ret
          exact ⟨ret_b (press_bad HX.out (by rw [HP.out]; simp [HC.out])), by (repeat (first | exact Below.refl _ _ | assumption | (refine Below.drew ?_) | (refine below_drewN ?_ _) | (refine Below.alloc ?_ (by first | exact Nat.le_refl _ | (simp; done) | (simp; omega) | omega) _) | (refine Below.setCell ?_ (by first | exact Nat.le_refl _ | (simp; done) | (simp; omega) | omega) _) | (refine Below.trans ?_ (Below.mono (by assumption) (by first | exact Nat.le_refl _ | (simp; done) | (simp; omega) | omega)))))⟩
      · go_wp2
        go_ret
        obtain rfl : k = n := by omega
        exact ⟨ret_b (by rw [← press_end HLEN.out hall.out]; exact hw.symm), by (repeat (first | exact Below.refl _ _ | assumption | (refine Below.drew ?_) | (refine below_drewN ?_ _) | (refine Below.alloc ?_ (by first | exact Nat.le_refl _ | (simp; done) | (simp; omega) | omega) _) | (refine Below.setCell ?_ (by first | exact Nat.le_refl _ | (simp; done) | (simp; omega) | omega) _) | (refine Below.trans ?_ (Below.mono (by assumption) (by first | exact Nat.le_refl _ | (simp; done) | (simp; omega) | omega)))))⟩
  · have hw' : within (n : Int) 1 12 = false := by simpa using hw
    have HX := Lib.hid (show false = pressingOk rows by unfold pressingOk; rw [HLEN.out, hw', Bool.and_false])
    go_enter Try.func14, Try.ntmps14
    go_wp2_with (go_at_call 49; refine (l01In_any _ _ _ _).mono ?_; rintro e w' ⟨rfl, rfl⟩)
    go_ret
    exact ⟨ret_b HX.out, by (repeat (first | exact Below.refl _ _ | assumption | (refine Below.drew ?_) | (refine below_drewN ?_ _) | (refine Below.alloc ?_ (by first | exact Nat.le_refl _ | (simp; done) | (simp; omega) | omega) _) | (refine Below.setCell ?_ (by first | exact Nat.le_refl _ | (simp; done) | (simp; omega) | omega) _) | (refine Below.trans ?_ (Below.mono (by assumption) (by first | exact Nat.le_refl _ | (simp; done) | (simp; omega) | omega)))))⟩

end Go.Proofs.Ytjgjdchnjiaclaa
