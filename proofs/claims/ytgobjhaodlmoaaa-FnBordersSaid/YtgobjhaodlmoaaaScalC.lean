/-
  Contracts: colors around a border; prints.
-/
import Derived.Test.YtgobjhaodlmoaaaScalB
import Derived.Test.YtgobjhaodlmoaaaPlainB
import Derived.Test.YtgobjhaodlmoaaaFlatInt
set_option linter.unusedVariables false
namespace Go.Proofs.Ytgobjhaodlmoaaa
open Go.RowKit

theorem allWithin_any (A : Option Addr) (n c : Nat) (xs : List Int) (a b : Int) (W : World) (h : Rd W A n 1 xs intC) (hn : n ≤ 4194304) :
    Calls Try.prog 61 #[.slice A n c, .int .i64 a, .int .i64 b] W fun e w' => e = .returned (.bool (xs.all (fun n => within n a b))) ∧ W = w' := by
  have hlen := Lib.hid h.len
  go_enter Try.func61, Try.ntmps61
  go_wp2
  go_loop [11] (fun i => ∃ k : Nat, k ≤ n ∧ i = .int .i64 k ∧ Hid ((xs.take k).all (fun n => within n a b) = true)) (fun i => n - (intOf i).toNat)
  case atStart => exact ⟨0, Nat.zero_le _, rfl, by simp [Hid]⟩
  case round =>
    obtain ⟨k, hk, rfl, hall⟩ := hrel
    by_cases hlt : k < n
    · obtain ⟨o, off, x, rfl, hbW, hx, h0⟩ := h.int hlt (Below.refl _ _)
      have hX := Lib.hid hx
      clear hx
      by_cases hb : within x a b = true
      · go_wp2_with (go_at_call 50; refine (within_any _ _ _ _).mono ?_; rintro e w' ⟨rfl, rfl⟩)
        go_round
        case rel => exact ⟨k + 1, by omega, by go_num, all_take_succ hX.out hall.out hb⟩
        case measure => simp [intOf]; omega
      · have hb' : within x a b = false := by simpa using hb
        go_wp2_with (go_at_call 50; refine (within_any _ _ _ _).mono ?_; rintro e w' ⟨rfl, rfl⟩)
        go_ret
        exact ⟨ret_b (all_no hX.out hb').symm, rfl⟩
    · go_wp2
      go_ret
      obtain rfl : k = n := by omega
      have hl := hlen.out
      exact ⟨ret_b (by rw [← hall.out, List.take_of_length_le (by omega)]), rfl⟩

theorem printsOkI_any (A : Option Addr) (n c : Nat) (xs : List Int) (W : World) (h : Rd W A n 1 xs intC) (hn : n ≤ 4194304) :
    Calls Try.prog 46 #[.slice A n c] W fun e w' => e = .returned (.bool (printsOk xs)) ∧ Below W.heap.size W w' := by
  have hlen := h.len
  by_cases h6 : n = 6
  · subst h6
    go_enter Try.func46, Try.ntmps46
    go_wp2_with (go_at_call 61; refine (allWithin_any _ _ _ xs _ _ _ h (by omega)).mono ?_; rintro e w' ⟨rfl, rfl⟩)
    go_ret
    exact ⟨ret_b (by unfold printsOk; rw [hlen]; simp), by (repeat (first | exact Below.refl _ _ | assumption | (refine Below.drew ?_) | (refine below_drewN ?_ _) | (refine Below.alloc ?_ (by first | exact Nat.le_refl _ | (simp; done) | (simp; omega) | omega) _) | (refine Below.setCell ?_ (by first | exact Nat.le_refl _ | (simp; done) | (simp; omega) | omega) _) | (refine Below.trans ?_ (Below.mono (by assumption) (by first | exact Nat.le_refl _ | (simp; done) | (simp; omega) | omega)))))⟩
  · have h6' : ((n : Int) == 6) = false := by rw [beq_eq_false_iff_ne]; omega
    have hX : false = printsOk xs := by unfold printsOk; rw [hlen]; simp [h6]
    have HX := Lib.hid hX
    clear hX hlen h6
    go_enter Try.func46, Try.ntmps46
    go_wp2_with fail
    go_ret
    exact ⟨ret_b HX.out, by (repeat (first | exact Below.refl _ _ | assumption | (refine Below.drew ?_) | (refine below_drewN ?_ _) | (refine Below.alloc ?_ (by first | exact Nat.le_refl _ | (simp; done) | (simp; omega) | omega) _) | (refine Below.setCell ?_ (by first | exact Nat.le_refl _ | (simp; done) | (simp; omega) | omega) _) | (refine Below.trans ?_ (Below.mono (by assumption) (by first | exact Nat.le_refl _ | (simp; done) | (simp; omega) | omega)))))⟩

theorem printsOkS_any (A : Option Addr) (n c : Nat) (xs : List Int) (W : World) (h : Rd W A n 1 xs intC) (hn : n ≤ 4194304) :
    Calls Try.prog 44 #[.slice A n c] W fun e w' => e = .returned (.bool (printsOk xs)) ∧ Below W.heap.size W w' := by
  have hlen := Lib.hid h.len
  go_enter Try.func44, Try.ntmps44
  go_wp2
  go_loop [3] (fun i => ∃ k : Nat, k ≤ n ∧ i = .int .i64 k ∧ Hid ((xs.take k).all (fun n => within n 0 2) = true)) (fun i => n - (intOf i).toNat)
  case atStart => exact ⟨0, Nat.zero_le _, rfl, by simp [Hid]⟩
  case round =>
    obtain ⟨k, hk, rfl, hall⟩ := hrel
    by_cases hlt : k < n
    · obtain ⟨o, off, x, rfl, hbW, hx, h0⟩ := h.int hlt (Below.refl _ _)
      have hX := Lib.hid hx
      clear hx
      by_cases hb : within x 0 2 = true
      · go_wp2_with (go_at_call 49; refine (l01In_any _ _ _ _).mono ?_; rintro e w' ⟨rfl, rfl⟩)
        go_round
        case rel => exact ⟨k + 1, by omega, by go_num, all_take_succ hX.out hall.out hb⟩
        case measure => simp [intOf]; omega
      · have hb' : within x 0 2 = false := by simpa using hb
        go_wp2_with (go_at_call 49; refine (l01In_any _ _ _ _).mono ?_; rintro e w' ⟨rfl, rfl⟩)
        go_ret
        exact ⟨ret_b (by unfold printsOk; rw [all_no hX.out hb', Bool.and_false]), by (repeat (first | exact Below.refl _ _ | assumption | (refine Below.drew ?_) | (refine below_drewN ?_ _) | (refine Below.alloc ?_ (by first | exact Nat.le_refl _ | (simp; done) | (simp; omega) | omega) _) | (refine Below.setCell ?_ (by first | exact Nat.le_refl _ | (simp; done) | (simp; omega) | omega) _) | (refine Below.trans ?_ (Below.mono (by assumption) (by first | exact Nat.le_refl _ | (simp; done) | (simp; omega) | omega)))))⟩
    · go_wp2
      go_ret
      obtain rfl : k = n := by omega
      have hl := hlen.out
      have ha := hall.out
      rw [List.take_of_length_le (by omega)] at ha
      exact ⟨ret_b (by unfold printsOk; rw [ha, hl, Bool.and_true, Bool.eq_iff_iff]; simp; omega), by (repeat (first | exact Below.refl _ _ | assumption | (refine Below.drew ?_) | (refine below_drewN ?_ _) | (refine Below.alloc ?_ (by first | exact Nat.le_refl _ | (simp; done) | (simp; omega) | omega) _) | (refine Below.setCell ?_ (by first | exact Nat.le_refl _ | (simp; done) | (simp; omega) | omega) _) | (refine Below.trans ?_ (Below.mono (by assumption) (by first | exact Nat.le_refl _ | (simp; done) | (simp; omega) | omega)))))⟩

theorem colorsMeetI_any (u d a b k : Int) (W : World) : Calls Try.prog 36 #[.agg #[.int .i64 u, .int .i64 d], .int .i64 a, .int .i64 b, .int .i64 k] W fun e w' => e = .returned (.bool (colorsMeet u d a b k)) ∧ Below W.heap.size W w' := by
  by_cases h1 : fitsBorder u d a b = true
  · have hu := units_bd h1
    by_cases h2 : within k 1 12 = true
    · have hk := within_iff.1 h2
      go_enter Try.func36, Try.ntmps36
      go_wp2_with (first | (go_at_call 40; refine (fitsBorderI_any _ _ _ _ _ ).mono ?_; rintro e w1 ⟨rfl, hb1⟩; obtain ⟨hc1, hf1⟩ := bcell hb1; have hz1 := hb1.size; (try simp at hz1); (try (have hy1_W_0 : W.heap.size < w1.heap.size := (by omega))); (try (have hy1_W_1 : W.heap.size + 1 < w1.heap.size := (by omega))); (try (have hy1_W_2 : W.heap.size + 2 < w1.heap.size := (by omega))); (try (have hy1_wr_0 : wr.heap.size < w1.heap.size := (by omega))); (try (have hy1_wr_1 : wr.heap.size + 1 < w1.heap.size := (by omega))); (try (have hy1_wr_2 : wr.heap.size + 2 < w1.heap.size := (by omega))); (try (have hyb1 : b < w1.heap.size := (by omega)))) | (go_at_call 39; refine (unitsAroundI_any _ _ _ _ _ ).mono ?_; rintro e w2 ⟨rfl, hb2⟩; obtain ⟨hc2, hf2⟩ := bcell hb2; have hz2 := hb2.size; (try simp at hz2); (try (have hy2_W_0 : W.heap.size < w2.heap.size := (by omega))); (try (have hy2_W_1 : W.heap.size + 1 < w2.heap.size := (by omega))); (try (have hy2_W_2 : W.heap.size + 2 < w2.heap.size := (by omega))); (try (have hy2_wr_0 : wr.heap.size < w2.heap.size := (by omega))); (try (have hy2_wr_1 : wr.heap.size + 1 < w2.heap.size := (by omega))); (try (have hy2_wr_2 : wr.heap.size + 2 < w2.heap.size := (by omega))); (try (have hy2_w1_0 : w1.heap.size < w2.heap.size := (by omega))); (try (have hy2_w1_1 : w1.heap.size + 1 < w2.heap.size := (by omega))); (try (have hy2_w1_2 : w1.heap.size + 2 < w2.heap.size := (by omega))); (try (have hyb2 : b < w2.heap.size := (by omega)))) | (go_at_call 50; refine (within_any _ _ _ _).mono ?_; rintro e w' ⟨rfl, rfl⟩))
      go_ret
      exact ⟨ret_b (by simp [colorsMeet, h1, h2]), by (repeat (first | exact Below.refl _ _ | assumption | (refine Below.drew ?_) | (refine below_drewN ?_ _) | (refine Below.alloc ?_ (by first | exact Nat.le_refl _ | (simp; done) | (simp; omega) | omega) _) | (refine Below.setCell ?_ (by first | exact Nat.le_refl _ | (simp; done) | (simp; omega) | omega) _) | (refine Below.trans ?_ (Below.mono (by assumption) (by first | exact Nat.le_refl _ | (simp; done) | (simp; omega) | omega)))))⟩
    · go_enter Try.func36, Try.ntmps36
      go_wp2_with (first | (go_at_call 40; refine (fitsBorderI_any _ _ _ _ _ ).mono ?_; rintro e w1 ⟨rfl, hb1⟩; obtain ⟨hc1, hf1⟩ := bcell hb1; have hz1 := hb1.size; (try simp at hz1); (try (have hy1_W_0 : W.heap.size < w1.heap.size := (by omega))); (try (have hy1_W_1 : W.heap.size + 1 < w1.heap.size := (by omega))); (try (have hy1_W_2 : W.heap.size + 2 < w1.heap.size := (by omega))); (try (have hy1_wr_0 : wr.heap.size < w1.heap.size := (by omega))); (try (have hy1_wr_1 : wr.heap.size + 1 < w1.heap.size := (by omega))); (try (have hy1_wr_2 : wr.heap.size + 2 < w1.heap.size := (by omega))); (try (have hyb1 : b < w1.heap.size := (by omega)))) | (go_at_call 39; refine (unitsAroundI_any _ _ _ _ _ ).mono ?_; rintro e w2 ⟨rfl, hb2⟩; obtain ⟨hc2, hf2⟩ := bcell hb2; have hz2 := hb2.size; (try simp at hz2); (try (have hy2_W_0 : W.heap.size < w2.heap.size := (by omega))); (try (have hy2_W_1 : W.heap.size + 1 < w2.heap.size := (by omega))); (try (have hy2_W_2 : W.heap.size + 2 < w2.heap.size := (by omega))); (try (have hy2_wr_0 : wr.heap.size < w2.heap.size := (by omega))); (try (have hy2_wr_1 : wr.heap.size + 1 < w2.heap.size := (by omega))); (try (have hy2_wr_2 : wr.heap.size + 2 < w2.heap.size := (by omega))); (try (have hy2_w1_0 : w1.heap.size < w2.heap.size := (by omega))); (try (have hy2_w1_1 : w1.heap.size + 1 < w2.heap.size := (by omega))); (try (have hy2_w1_2 : w1.heap.size + 2 < w2.heap.size := (by omega))); (try (have hyb2 : b < w2.heap.size := (by omega)))) | (go_at_call 50; refine (within_any _ _ _ _).mono ?_; rintro e w' ⟨rfl, rfl⟩))
      go_ret
      exact ⟨ret_b (by simp [colorsMeet, h2]), by (repeat (first | exact Below.refl _ _ | assumption | (refine Below.drew ?_) | (refine below_drewN ?_ _) | (refine Below.alloc ?_ (by first | exact Nat.le_refl _ | (simp; done) | (simp; omega) | omega) _) | (refine Below.setCell ?_ (by first | exact Nat.le_refl _ | (simp; done) | (simp; omega) | omega) _) | (refine Below.trans ?_ (Below.mono (by assumption) (by first | exact Nat.le_refl _ | (simp; done) | (simp; omega) | omega)))))⟩
  · have h1' : fitsBorder u d a b = false := by simpa using h1
    go_enter Try.func36, Try.ntmps36
    go_wp2_with (first | (go_at_call 40; refine (fitsBorderI_any _ _ _ _ _ ).mono ?_; rintro e w1 ⟨rfl, hb1⟩; obtain ⟨hc1, hf1⟩ := bcell hb1; have hz1 := hb1.size; (try simp at hz1); (try (have hy1_W_0 : W.heap.size < w1.heap.size := (by omega))); (try (have hy1_W_1 : W.heap.size + 1 < w1.heap.size := (by omega))); (try (have hy1_W_2 : W.heap.size + 2 < w1.heap.size := (by omega))); (try (have hy1_wr_0 : wr.heap.size < w1.heap.size := (by omega))); (try (have hy1_wr_1 : wr.heap.size + 1 < w1.heap.size := (by omega))); (try (have hy1_wr_2 : wr.heap.size + 2 < w1.heap.size := (by omega))); (try (have hyb1 : b < w1.heap.size := (by omega)))) | (go_at_call 39; refine (unitsAroundI_any _ _ _ _ _ ).mono ?_; rintro e w2 ⟨rfl, hb2⟩; obtain ⟨hc2, hf2⟩ := bcell hb2; have hz2 := hb2.size; (try simp at hz2); (try (have hy2_W_0 : W.heap.size < w2.heap.size := (by omega))); (try (have hy2_W_1 : W.heap.size + 1 < w2.heap.size := (by omega))); (try (have hy2_W_2 : W.heap.size + 2 < w2.heap.size := (by omega))); (try (have hy2_wr_0 : wr.heap.size < w2.heap.size := (by omega))); (try (have hy2_wr_1 : wr.heap.size + 1 < w2.heap.size := (by omega))); (try (have hy2_wr_2 : wr.heap.size + 2 < w2.heap.size := (by omega))); (try (have hy2_w1_0 : w1.heap.size < w2.heap.size := (by omega))); (try (have hy2_w1_1 : w1.heap.size + 1 < w2.heap.size := (by omega))); (try (have hy2_w1_2 : w1.heap.size + 2 < w2.heap.size := (by omega))); (try (have hyb2 : b < w2.heap.size := (by omega)))) | (go_at_call 50; refine (within_any _ _ _ _).mono ?_; rintro e w' ⟨rfl, rfl⟩))
    go_ret
    exact ⟨ret_b (by simp [colorsMeet, h1']), by (repeat (first | exact Below.refl _ _ | assumption | (refine Below.drew ?_) | (refine below_drewN ?_ _) | (refine Below.alloc ?_ (by first | exact Nat.le_refl _ | (simp; done) | (simp; omega) | omega) _) | (refine Below.setCell ?_ (by first | exact Nat.le_refl _ | (simp; done) | (simp; omega) | omega) _) | (refine Below.trans ?_ (Below.mono (by assumption) (by first | exact Nat.le_refl _ | (simp; done) | (simp; omega) | omega)))))⟩

theorem colorsMeetS_any (u d a b k : Int) (W : World) : Calls Try.prog 34 #[.agg #[.int .i64 u, .int .i64 d], .int .i64 a, .int .i64 b, .int .i64 k] W fun e w' => e = .returned (.bool (colorsMeet u d a b k)) ∧ Below W.heap.size W w' := by
  by_cases h1 : fitsBorder u d a b = true
  · have hu := units_bd h1
    by_cases h2 : within k 1 12 = true
    · have hk := within_iff.1 h2
      go_enter Try.func34, Try.ntmps34
      go_wp2_with (first | (go_at_call 57; refine (fitsBorderS_any _ _ _ _ _ ).mono ?_; rintro e w1 ⟨rfl, hb1⟩; obtain ⟨hc1, hf1⟩ := bcell hb1; have hz1 := hb1.size; (try simp at hz1); (try (have hy1_W_0 : W.heap.size < w1.heap.size := (by omega))); (try (have hy1_W_1 : W.heap.size + 1 < w1.heap.size := (by omega))); (try (have hy1_W_2 : W.heap.size + 2 < w1.heap.size := (by omega))); (try (have hy1_wr_0 : wr.heap.size < w1.heap.size := (by omega))); (try (have hy1_wr_1 : wr.heap.size + 1 < w1.heap.size := (by omega))); (try (have hy1_wr_2 : wr.heap.size + 2 < w1.heap.size := (by omega))); (try (have hyb1 : b < w1.heap.size := (by omega)))) | (go_at_call 58; refine (unitsAroundS_any _ _ _ _ _ ).mono ?_; rintro e w2 ⟨rfl, hb2⟩; obtain ⟨hc2, hf2⟩ := bcell hb2; have hz2 := hb2.size; (try simp at hz2); (try (have hy2_W_0 : W.heap.size < w2.heap.size := (by omega))); (try (have hy2_W_1 : W.heap.size + 1 < w2.heap.size := (by omega))); (try (have hy2_W_2 : W.heap.size + 2 < w2.heap.size := (by omega))); (try (have hy2_wr_0 : wr.heap.size < w2.heap.size := (by omega))); (try (have hy2_wr_1 : wr.heap.size + 1 < w2.heap.size := (by omega))); (try (have hy2_wr_2 : wr.heap.size + 2 < w2.heap.size := (by omega))); (try (have hy2_w1_0 : w1.heap.size < w2.heap.size := (by omega))); (try (have hy2_w1_1 : w1.heap.size + 1 < w2.heap.size := (by omega))); (try (have hy2_w1_2 : w1.heap.size + 2 < w2.heap.size := (by omega))); (try (have hyb2 : b < w2.heap.size := (by omega)))) | (go_at_call 49; refine (l01In_any _ _ _ _).mono ?_; rintro e w' ⟨rfl, rfl⟩))
      go_ret
      exact ⟨ret_b (by simp [colorsMeet, h1, h2]), by (repeat (first | exact Below.refl _ _ | assumption | (refine Below.drew ?_) | (refine below_drewN ?_ _) | (refine Below.alloc ?_ (by first | exact Nat.le_refl _ | (simp; done) | (simp; omega) | omega) _) | (refine Below.setCell ?_ (by first | exact Nat.le_refl _ | (simp; done) | (simp; omega) | omega) _) | (refine Below.trans ?_ (Below.mono (by assumption) (by first | exact Nat.le_refl _ | (simp; done) | (simp; omega) | omega)))))⟩
    · go_enter Try.func34, Try.ntmps34
      go_wp2_with (first | (go_at_call 57; refine (fitsBorderS_any _ _ _ _ _ ).mono ?_; rintro e w1 ⟨rfl, hb1⟩; obtain ⟨hc1, hf1⟩ := bcell hb1; have hz1 := hb1.size; (try simp at hz1); (try (have hy1_W_0 : W.heap.size < w1.heap.size := (by omega))); (try (have hy1_W_1 : W.heap.size + 1 < w1.heap.size := (by omega))); (try (have hy1_W_2 : W.heap.size + 2 < w1.heap.size := (by omega))); (try (have hy1_wr_0 : wr.heap.size < w1.heap.size := (by omega))); (try (have hy1_wr_1 : wr.heap.size + 1 < w1.heap.size := (by omega))); (try (have hy1_wr_2 : wr.heap.size + 2 < w1.heap.size := (by omega))); (try (have hyb1 : b < w1.heap.size := (by omega)))) | (go_at_call 58; refine (unitsAroundS_any _ _ _ _ _ ).mono ?_; rintro e w2 ⟨rfl, hb2⟩; obtain ⟨hc2, hf2⟩ := bcell hb2; have hz2 := hb2.size; (try simp at hz2); (try (have hy2_W_0 : W.heap.size < w2.heap.size := (by omega))); (try (have hy2_W_1 : W.heap.size + 1 < w2.heap.size := (by omega))); (try (have hy2_W_2 : W.heap.size + 2 < w2.heap.size := (by omega))); (try (have hy2_wr_0 : wr.heap.size < w2.heap.size := (by omega))); (try (have hy2_wr_1 : wr.heap.size + 1 < w2.heap.size := (by omega))); (try (have hy2_wr_2 : wr.heap.size + 2 < w2.heap.size := (by omega))); (try (have hy2_w1_0 : w1.heap.size < w2.heap.size := (by omega))); (try (have hy2_w1_1 : w1.heap.size + 1 < w2.heap.size := (by omega))); (try (have hy2_w1_2 : w1.heap.size + 2 < w2.heap.size := (by omega))); (try (have hyb2 : b < w2.heap.size := (by omega)))) | (go_at_call 49; refine (l01In_any _ _ _ _).mono ?_; rintro e w' ⟨rfl, rfl⟩))
      go_ret
      exact ⟨ret_b (by simp [colorsMeet, h2]), by (repeat (first | exact Below.refl _ _ | assumption | (refine Below.drew ?_) | (refine below_drewN ?_ _) | (refine Below.alloc ?_ (by first | exact Nat.le_refl _ | (simp; done) | (simp; omega) | omega) _) | (refine Below.setCell ?_ (by first | exact Nat.le_refl _ | (simp; done) | (simp; omega) | omega) _) | (refine Below.trans ?_ (Below.mono (by assumption) (by first | exact Nat.le_refl _ | (simp; done) | (simp; omega) | omega)))))⟩
  · have h1' : fitsBorder u d a b = false := by simpa using h1
    go_enter Try.func34, Try.ntmps34
    go_wp2_with (first | (go_at_call 57; refine (fitsBorderS_any _ _ _ _ _ ).mono ?_; rintro e w1 ⟨rfl, hb1⟩; obtain ⟨hc1, hf1⟩ := bcell hb1; have hz1 := hb1.size; (try simp at hz1); (try (have hy1_W_0 : W.heap.size < w1.heap.size := (by omega))); (try (have hy1_W_1 : W.heap.size + 1 < w1.heap.size := (by omega))); (try (have hy1_W_2 : W.heap.size + 2 < w1.heap.size := (by omega))); (try (have hy1_wr_0 : wr.heap.size < w1.heap.size := (by omega))); (try (have hy1_wr_1 : wr.heap.size + 1 < w1.heap.size := (by omega))); (try (have hy1_wr_2 : wr.heap.size + 2 < w1.heap.size := (by omega))); (try (have hyb1 : b < w1.heap.size := (by omega)))) | (go_at_call 58; refine (unitsAroundS_any _ _ _ _ _ ).mono ?_; rintro e w2 ⟨rfl, hb2⟩; obtain ⟨hc2, hf2⟩ := bcell hb2; have hz2 := hb2.size; (try simp at hz2); (try (have hy2_W_0 : W.heap.size < w2.heap.size := (by omega))); (try (have hy2_W_1 : W.heap.size + 1 < w2.heap.size := (by omega))); (try (have hy2_W_2 : W.heap.size + 2 < w2.heap.size := (by omega))); (try (have hy2_wr_0 : wr.heap.size < w2.heap.size := (by omega))); (try (have hy2_wr_1 : wr.heap.size + 1 < w2.heap.size := (by omega))); (try (have hy2_wr_2 : wr.heap.size + 2 < w2.heap.size := (by omega))); (try (have hy2_w1_0 : w1.heap.size < w2.heap.size := (by omega))); (try (have hy2_w1_1 : w1.heap.size + 1 < w2.heap.size := (by omega))); (try (have hy2_w1_2 : w1.heap.size + 2 < w2.heap.size := (by omega))); (try (have hyb2 : b < w2.heap.size := (by omega)))) | (go_at_call 49; refine (l01In_any _ _ _ _).mono ?_; rintro e w' ⟨rfl, rfl⟩))
    go_ret
    exact ⟨ret_b (by simp [colorsMeet, h1']), by (repeat (first | exact Below.refl _ _ | assumption | (refine Below.drew ?_) | (refine below_drewN ?_ _) | (refine Below.alloc ?_ (by first | exact Nat.le_refl _ | (simp; done) | (simp; omega) | omega) _) | (refine Below.setCell ?_ (by first | exact Nat.le_refl _ | (simp; done) | (simp; omega) | omega) _) | (refine Below.trans ?_ (Below.mono (by assumption) (by first | exact Nat.le_refl _ | (simp; done) | (simp; omega) | omega)))))⟩

end Go.Proofs.Ytgobjhaodlmoaaa
