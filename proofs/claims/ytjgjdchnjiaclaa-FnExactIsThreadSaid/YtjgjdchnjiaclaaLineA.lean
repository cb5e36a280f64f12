/-
  Contracts over lines: which are valid.
-/
import Derived.Test.YtjgjdchnjiaclaaPlainL
import Derived.Test.YtjgjdchnjiaclaaScalA
import Derived.Test.YtjgjdchnjiaclaaFlatLine
set_option linter.unusedVariables false
namespace Go.Proofs.Ytjgjdchnjiaclaa
open Go.RowKit

theorem linesOkI_any (m : Int) (A : Option Addr) (n c : Nat) (xs : List Line) (W : World) (h : Rd W A n 2 xs lineC) (hn : n ≤ 1048576) :
    Calls Try.prog 35 #[.int .i64 m, .slice A n c] W fun e w' => e = .returned (.bool (linesOk m xs)) ∧ Below W.heap.size W w' := by
  have hlen := Lib.hid h.len
  by_cases h1 : within m 1 10 = true
  · have hm := within_iff.1 h1
    by_cases h2 : n ≤ 20
    · have HM := Lib.hid h1
      go_enter Try.func35, Try.ntmps35
      go_wp2_with (go_at_call 51; refine (within_any _ _ _ _).mono ?_; rintro e w' ⟨rfl, rfl⟩)
      go_loopw [17] (fun i wr => ∃ k : Nat, k ≤ n ∧ i = .int .i64 k ∧ Below W.heap.size W wr ∧ Hid ((xs.take k).all (lineOk m) = true)) (fun i _ => n - (intOf i).toNat)
      case atStart => exact ⟨0, Nat.zero_le _, rfl, Below.refl _ _, by simp [Hid]⟩
      case round =>
        obtain ⟨k, hk, rfl, hB, hall⟩ := hrel
        have hz := hB.size
        by_cases hlt : k < n
        · obtain ⟨b, off, x, rfl, hbW, hx, g0, g1⟩ := h.line hlt hB
          have hX := Lib.hid hx
          clear hx
          obtain ⟨x1, x2⟩ := x
          simp only at g0 g1
          by_cases c1 : within x1 0 (m - 1) = true
          · by_cases c2 : within x2 0 (m - 1) = true
            · by_cases c3 : x1 = x2
              · subst c3
                have HP := Lib.hid (show lineOk m ⟨x1, x1⟩ = false by simp [lineOk])
                have c3 : (x1 == x1) = true := by simp
                clear c2
                go_wp2_with (go_at_call 51; refine (within_any _ _ _ _).mono ?_; rintro e w' ⟨rfl, rfl⟩)
                go_ret
                exact ⟨ret_b (lines_bad hX.out HP.out), by (repeat (first | exact Below.refl _ _ | assumption | (refine Below.drew ?_) | (refine below_drewN ?_ _) | (refine Below.alloc ?_ (by first | exact Nat.le_refl _ | (simp; done) | (simp; omega) | omega) _) | (refine Below.setCell ?_ (by first | exact Nat.le_refl _ | (simp; done) | (simp; omega) | omega) _) | (refine Below.trans ?_ (Below.mono (by assumption) (by first | exact Nat.le_refl _ | (simp; done) | (simp; omega) | omega)))))⟩
              · have c3' : (x1 == x2) = false := by rw [beq_eq_false_iff_ne]; exact c3
                have HP := Lib.hid (show lineOk m ⟨x1, x2⟩ = true by simp [lineOk, c1, c2, c3])
                clear c3
                go_wp2_with (go_at_call 51; refine (within_any _ _ _ _).mono ?_; rintro e w' ⟨rfl, rfl⟩)
                go_roundw
                case rel => exact ⟨k + 1, by omega, by go_num, by (repeat (first | exact Below.refl _ _ | assumption | (refine Below.drew ?_) | (refine below_drewN ?_ _) | (refine Below.alloc ?_ (by first | exact Nat.le_refl _ | (simp; done) | (simp; omega) | omega) _) | (refine Below.setCell ?_ (by first | exact Nat.le_refl _ | (simp; done) | (simp; omega) | omega) _) | (refine Below.trans ?_ (Below.mono (by assumption) (by first | exact Nat.le_refl _ | (simp; done) | (simp; omega) | omega))))), all_take_succ hX.out hall.out HP.out⟩
                case measure => simp [intOf]; omega
            · have c2' : within x2 0 (m - 1) = false := by simpa using c2
              have HP := Lib.hid (show lineOk m ⟨x1, x2⟩ = false by simp [lineOk, c2'])
              clear c2
              go_wp2_with (go_at_call 51; refine (within_any _ _ _ _).mono ?_; rintro e w' ⟨rfl, rfl⟩)
              go_ret
              exact ⟨ret_b (lines_bad hX.out HP.out), by (repeat (first | exact Below.refl _ _ | assumption | (refine Below.drew ?_) | (refine below_drewN ?_ _) | (refine Below.alloc ?_ (by first | exact Nat.le_refl _ | (simp; done) | (simp; omega) | omega) _) | (refine Below.setCell ?_ (by first | exact Nat.le_refl _ | (simp; done) | (simp; omega) | omega) _) | (refine Below.trans ?_ (Below.mono (by assumption) (by first | exact Nat.le_refl _ | (simp; done) | (simp; omega) | omega)))))⟩
          · have c1' : within x1 0 (m - 1) = false := by simpa using c1
            have HP := Lib.hid (show lineOk m ⟨x1, x2⟩ = false by simp [lineOk, c1'])
            clear c1
            go_wp2_with (go_at_call 51; refine (within_any _ _ _ _).mono ?_; rintro e w' ⟨rfl, rfl⟩)
            go_ret
            exact ⟨ret_b (lines_bad hX.out HP.out), by (repeat (first | exact Below.refl _ _ | assumption | (refine Below.drew ?_) | (refine below_drewN ?_ _) | (refine Below.alloc ?_ (by first | exact Nat.le_refl _ | (simp; done) | (simp; omega) | omega) _) | (refine Below.setCell ?_ (by first | exact Nat.le_refl _ | (simp; done) | (simp; omega) | omega) _) | (refine Below.trans ?_ (Below.mono (by assumption) (by first | exact Nat.le_refl _ | (simp; done) | (simp; omega) | omega)))))⟩
        · go_wp2
          go_ret
          obtain rfl : k = n := by omega
          exact ⟨ret_b (lines_end hlen.out HM.out h2 hall.out), by (repeat (first | exact Below.refl _ _ | assumption | (refine Below.drew ?_) | (refine below_drewN ?_ _) | (refine Below.alloc ?_ (by first | exact Nat.le_refl _ | (simp; done) | (simp; omega) | omega) _) | (refine Below.setCell ?_ (by first | exact Nat.le_refl _ | (simp; done) | (simp; omega) | omega) _) | (refine Below.trans ?_ (Below.mono (by assumption) (by first | exact Nat.le_refl _ | (simp; done) | (simp; omega) | omega)))))⟩
    · have hX : false = linesOk m xs := by unfold linesOk; rw [h.len]; simp [h2]
      have HX := Lib.hid hX
      clear hX
      go_enter Try.func35, Try.ntmps35
      go_wp2_with (go_at_call 51; refine (within_any _ _ _ _).mono ?_; rintro e w' ⟨rfl, rfl⟩)
      go_ret
      exact ⟨ret_b HX.out, by (repeat (first | exact Below.refl _ _ | assumption | (refine Below.drew ?_) | (refine below_drewN ?_ _) | (refine Below.alloc ?_ (by first | exact Nat.le_refl _ | (simp; done) | (simp; omega) | omega) _) | (refine Below.setCell ?_ (by first | exact Nat.le_refl _ | (simp; done) | (simp; omega) | omega) _) | (refine Below.trans ?_ (Below.mono (by assumption) (by first | exact Nat.le_refl _ | (simp; done) | (simp; omega) | omega)))))⟩
  · have h1' : within m 1 10 = false := by simpa using h1
    have hX : false = linesOk m xs := by unfold linesOk; rw [h1']; simp
    have HX := Lib.hid hX
    clear hX
    go_enter Try.func35, Try.ntmps35
    go_wp2_with (go_at_call 51; refine (within_any _ _ _ _).mono ?_; rintro e w' ⟨rfl, rfl⟩)
    go_ret
    exact ⟨ret_b HX.out, by (repeat (first | exact Below.refl _ _ | assumption | (refine Below.drew ?_) | (refine below_drewN ?_ _) | (refine Below.alloc ?_ (by first | exact Nat.le_refl _ | (simp; done) | (simp; omega) | omega) _) | (refine Below.setCell ?_ (by first | exact Nat.le_refl _ | (simp; done) | (simp; omega) | omega) _) | (refine Below.trans ?_ (Below.mono (by assumption) (by first | exact Nat.le_refl _ | (simp; done) | (simp; omega) | omega)))))⟩

theorem linesOkS_any (m : Int) (A : Option Addr) (n c : Nat) (xs : List Line) (W : World) (h : Rd W A n 2 xs lineC) (hn : n ≤ 1048576) :
    Calls Try.prog 33 #[.int .i64 m, .slice A n c] W fun e w' => e = .returned (.bool (linesOk m xs)) ∧ Below W.heap.size W w' := by
  have hlen := Lib.hid h.len
  by_cases h1 : within m 1 10 = true
  · have hm := within_iff.1 h1
    by_cases h2 : n ≤ 20
    · have HM := Lib.hid h1
      go_enter Try.func33, Try.ntmps33
      go_wp2_with (go_at_call 49; refine (l01In_any _ _ _ _).mono ?_; rintro e w' ⟨rfl, rfl⟩)
      go_loopw [5] (fun i wr => ∃ k : Nat, k ≤ n ∧ i = .int .i64 k ∧ Below W.heap.size W wr ∧ Hid ((xs.take k).all (lineOk m) = true)) (fun i _ => n - (intOf i).toNat)
      case atStart => exact ⟨0, Nat.zero_le _, rfl, Below.refl _ _, by simp [Hid]⟩
      case round =>
        obtain ⟨k, hk, rfl, hB, hall⟩ := hrel
        have hz := hB.size
        by_cases hlt : k < n
        · obtain ⟨b, off, x, rfl, hbW, hx, g0, g1⟩ := h.line hlt hB
          have hX := Lib.hid hx
          clear hx
          obtain ⟨x1, x2⟩ := x
          simp only at g0 g1
          by_cases c1 : within x1 0 (m - 1) = true
          · by_cases c2 : within x2 0 (m - 1) = true
            · by_cases c3 : x1 = x2
              · subst c3
                have HP := Lib.hid (show lineOk m ⟨x1, x1⟩ = false by simp [lineOk])
                have c3 : (x1 == x1) = true := by simp
                clear c2
                go_wp2_with (go_at_call 49; refine (l01In_any _ _ _ _).mono ?_; rintro e w' ⟨rfl, rfl⟩)
                go_quiet ((go_at_call 49; exact Calls.quiet_of_same (l01In_q _ _ _ _)))
                go_wp2
                go_ret
                exact ⟨ret_b (lines_bad hX.out HP.out), by (repeat (first | exact Below.refl _ _ | assumption | (refine Below.drew ?_) | (refine below_drewN ?_ _) | (refine Below.alloc ?_ (by first | exact Nat.le_refl _ | (simp; done) | (simp; omega) | omega) _) | (refine Below.setCell ?_ (by first | exact Nat.le_refl _ | (simp; done) | (simp; omega) | omega) _) | (refine Below.trans ?_ (Below.mono (by assumption) (by first | exact Nat.le_refl _ | (simp; done) | (simp; omega) | omega)))))⟩
              · have c3' : (x1 == x2) = false := by rw [beq_eq_false_iff_ne]; exact c3
                have HP := Lib.hid (show lineOk m ⟨x1, x2⟩ = true by simp [lineOk, c1, c2, c3])
                clear c3
                go_wp2_with (go_at_call 49; refine (l01In_any _ _ _ _).mono ?_; rintro e w' ⟨rfl, rfl⟩)
                go_quiet ((go_at_call 49; exact Calls.quiet_of_same (l01In_q _ _ _ _)))
                go_wp2
                go_roundw
                case rel => exact ⟨k + 1, by omega, by go_num, by (repeat (first | exact Below.refl _ _ | assumption | (refine Below.drew ?_) | (refine below_drewN ?_ _) | (refine Below.alloc ?_ (by first | exact Nat.le_refl _ | (simp; done) | (simp; omega) | omega) _) | (refine Below.setCell ?_ (by first | exact Nat.le_refl _ | (simp; done) | (simp; omega) | omega) _) | (refine Below.trans ?_ (Below.mono (by assumption) (by first | exact Nat.le_refl _ | (simp; done) | (simp; omega) | omega))))), all_take_succ hX.out hall.out HP.out⟩
                case measure => simp [intOf]; omega
            · have c2' : within x2 0 (m - 1) = false := by simpa using c2
              have HP := Lib.hid (show lineOk m ⟨x1, x2⟩ = false by simp [lineOk, c2'])
              clear c2
              go_wp2_with (go_at_call 49; refine (l01In_any _ _ _ _).mono ?_; rintro e w' ⟨rfl, rfl⟩)
              go_quiet ((go_at_call 49; exact Calls.quiet_of_same (l01In_q _ _ _ _)))
              go_wp2
              go_ret
              exact ⟨ret_b (lines_bad hX.out HP.out), by (repeat (first | exact Below.refl _ _ | assumption | (refine Below.drew ?_) | (refine below_drewN ?_ _) | (refine Below.alloc ?_ (by first | exact Nat.le_refl _ | (simp; done) | (simp; omega) | omega) _) | (refine Below.setCell ?_ (by first | exact Nat.le_refl _ | (simp; done) | (simp; omega) | omega) _) | (refine Below.trans ?_ (Below.mono (by assumption) (by first | exact Nat.le_refl _ | (simp; done) | (simp; omega) | omega)))))⟩
          · have c1' : within x1 0 (m - 1) = false := by simpa using c1
            have HP := Lib.hid (show lineOk m ⟨x1, x2⟩ = false by simp [lineOk, c1'])
            clear c1
            go_wp2_with (go_at_call 49; refine (l01In_any _ _ _ _).mono ?_; rintro e w' ⟨rfl, rfl⟩)
            go_quiet ((go_at_call 49; exact Calls.quiet_of_same (l01In_q _ _ _ _)))
            go_wp2
            go_ret
            exact ⟨ret_b (lines_bad hX.out HP.out), by (repeat (first | exact Below.refl _ _ | assumption | (refine Below.drew ?_) | (refine below_drewN ?_ _) | (refine Below.alloc ?_ (by first | exact Nat.le_refl _ | (simp; done) | (simp; omega) | omega) _) | (refine Below.setCell ?_ (by first | exact Nat.le_refl _ | (simp; done) | (simp; omega) | omega) _) | (refine Below.trans ?_ (Below.mono (by assumption) (by first | exact Nat.le_refl _ | (simp; done) | (simp; omega) | omega)))))⟩
        · go_wp2
          go_ret
          obtain rfl : k = n := by omega
          exact ⟨ret_b (lines_end hlen.out HM.out h2 hall.out), by (repeat (first | exact Below.refl _ _ | assumption | (refine Below.drew ?_) | (refine below_drewN ?_ _) | (refine Below.alloc ?_ (by first | exact Nat.le_refl _ | (simp; done) | (simp; omega) | omega) _) | (refine Below.setCell ?_ (by first | exact Nat.le_refl _ | (simp; done) | (simp; omega) | omega) _) | (refine Below.trans ?_ (Below.mono (by assumption) (by first | exact Nat.le_refl _ | (simp; done) | (simp; omega) | omega)))))⟩
    · have hX : false = linesOk m xs := by unfold linesOk; rw [h.len]; simp [h2]
      have HX := Lib.hid hX
      clear hX
      go_enter Try.func33, Try.ntmps33
      go_wp2_with (go_at_call 49; refine (l01In_any _ _ _ _).mono ?_; rintro e w' ⟨rfl, rfl⟩)
      go_ret
      exact ⟨ret_b HX.out, by (repeat (first | exact Below.refl _ _ | assumption | (refine Below.drew ?_) | (refine below_drewN ?_ _) | (refine Below.alloc ?_ (by first | exact Nat.le_refl _ | (simp; done) | (simp; omega) | omega) _) | (refine Below.setCell ?_ (by first | exact Nat.le_refl _ | (simp; done) | (simp; omega) | omega) _) | (refine Below.trans ?_ (Below.mono (by assumption) (by first | exact Nat.le_refl _ | (simp; done) | (simp; omega) | omega)))))⟩
  · have h1' : within m 1 10 = false := by simpa using h1
    have hX : false = linesOk m xs := by unfold linesOk; rw [h1']; simp
    have HX := Lib.hid hX
    clear hX
    go_enter Try.func33, Try.ntmps33
    go_wp2_with (go_at_call 49; refine (l01In_any _ _ _ _).mono ?_; rintro e w' ⟨rfl, rfl⟩)
    go_ret
    exact ⟨ret_b HX.out, by (repeat (first | exact Below.refl _ _ | assumption | (refine Below.drew ?_) | (refine below_drewN ?_ _) | (refine Below.alloc ?_ (by first | exact Nat.le_refl _ | (simp; done) | (simp; omega) | omega) _) | (refine Below.setCell ?_ (by first | exact Nat.le_refl _ | (simp; done) | (simp; omega) | omega) _) | (refine Below.trans ?_ (Below.mono (by assumption) (by first | exact Nat.le_refl _ | (simp; done) | (simp; omega) | omega)))))⟩

end Go.Proofs.Ytjgjdchnjiaclaa
