/-
  Contracts over needs: lengths of strips.
-/
import Derived.Test.YtgobjhaodlmoaaaNeedB
set_option linter.unusedVariables false
namespace Go.Proofs.Ytgobjhaodlmoaaa
open Go.RowKit

theorem all_map_take_succ {p : Need → Need} {q : Need → Bool} {l : List Need} {k : Nat} {x : Need} (hx : l[k]? = some x) (h : ((l.map p).take k).all q = true) (hp : q (p x) = true) : ((l.map p).take (k + 1)).all q = true :=
  all_take_succ (by rw [List.getElem?_map, hx]; rfl) h hp
theorem sum_map_take_succ {p : Need → Need} {w s : Int} {l : List Need} {k : Nat} {x : Need} (hx : l[k]? = some x) (h : s = sumBy w ((l.map p).take k)) : s + stripCount (p x) w * (p x).H = sumBy w ((l.map p).take (k + 1)) := by
  rw [sumBy_take_succ (x := p x) (by rw [List.getElem?_map, hx]; rfl), ← h]

theorem stripLengthI_any (A : Option Addr) (n c : Nat) (xs : List Need) (m : Int) (W : World) (h : Rd W A n 3 xs needC) (hn : n ≤ 1048576) :
    Calls Try.prog 24 #[.slice A n c, .int .i64 m] W fun e w' => e = .returned (.int .i64 (stripLength xs m)) ∧ Below W.heap.size W w' := by
  by_cases hok : needsOk xs = true
  · have hX : lengthBy id m xs = stripLength xs m := by unfold stripLength; rw [if_pos hok]
    generalize stripLength xs m = R at *
    have HX := Lib.hid hX
    have hlen := Lib.hid h.len
    have hn8 : n ≤ 8 := by have := needsOk_len hok; rw [h.len] at this; exact this
    have HOK := Lib.hid hok
    go_enter Try.func24, Try.ntmps24
    go_wp2_with (go_at_call 21; refine (needsOkI_any _ _ _ xs _ h (by omega)).mono ?_; rintro e w1 ⟨rfl, hb1⟩; obtain ⟨hc1, hf1⟩ := bcell hb1; have hz1 := hb1.size)
    have hB1 : Below W.heap.size W w1 := hb1
    clear hX hok hc1 hf1
    have HOK := HOK
    go_loopw [5, 14] (fun o i wr => ∃ (k : Nat) (s : Int), k ≤ n ∧ i = .int .i64 k ∧ o = .int .i64 s ∧ 0 ≤ s ∧ s ≤ 80000 * (k : Int) ∧ Below W.heap.size W wr ∧ Hid (s = sumBy m ((xs.map id).take k)) ∧ Hid (((xs.map id).take k).all (fun n => decide (0 ≤ stripCount n m)) = true)) (fun _ i _ => n - (intOf i).toNat)
    case atStart => exact ⟨0, 0, Nat.zero_le _, rfl, rfl, by omega, by omega, hb1, by simp [Hid, sumBy], by simp [Hid]⟩
    case round =>
      obtain ⟨k, s, hk, rfl, rfl, hs0, hs1, hB, hsum, hall⟩ := hrel
      have hz := hB.size
      by_cases hlt : k < n
      · obtain ⟨b, off, x, rfl, hbW, hx, h0, h1, h2⟩ := h.need hlt hB
        have HN := Lib.hid (needsOk_at HOK.out hx)
        have hX := Lib.hid hx
        clear hx
        obtain ⟨x1, x2, x3⟩ := x
        simp only at h0 h1 h2
        have hbr : b < wr.heap.size := by omega
        rcases strip_bd ⟨x1, x2, x3⟩ m with hc | ⟨hok2, hc1, hc2⟩
        · go_wp2_with (go_at_call 15; refine (stripCountI_any _ _ _ _ _).mono ?_; rintro e w2 ⟨rfl, hb2⟩; obtain ⟨hc2, hf2⟩ := bcell hb2; have hz2 := hb2.size; (try simp at hz2); (try (have hy2_W_0 : W.heap.size < w2.heap.size := (by omega))); (try (have hy2_W_1 : W.heap.size + 1 < w2.heap.size := (by omega))); (try (have hy2_W_2 : W.heap.size + 2 < w2.heap.size := (by omega))); (try (have hy2_wr_0 : wr.heap.size < w2.heap.size := (by omega))); (try (have hy2_wr_1 : wr.heap.size + 1 < w2.heap.size := (by omega))); (try (have hy2_wr_2 : wr.heap.size + 2 < w2.heap.size := (by omega))); (try (have hy2_w1_0 : w1.heap.size < w2.heap.size := (by omega))); (try (have hy2_w1_1 : w1.heap.size + 1 < w2.heap.size := (by omega))); (try (have hy2_w1_2 : w1.heap.size + 2 < w2.heap.size := (by omega))); (try (have hyb2 : b < w2.heap.size := (by omega))))
          go_ret
          exact ⟨ret_i (by rw [← HX.out]; exact lengthBy_bad hX.out (by show stripCount ⟨x1, x2, x3⟩ m < 0; omega)), by (repeat (first | exact Below.refl _ _ | assumption | (refine Below.drew ?_) | (refine below_drewN ?_ _) | (refine Below.alloc ?_ (by first | exact Nat.le_refl _ | (simp; done) | (simp; omega) | omega) _) | (refine Below.setCell ?_ (by first | exact Nat.le_refl _ | (simp; done) | (simp; omega) | omega) _) | (refine Below.trans ?_ (Below.mono (by assumption) (by first | exact Nat.le_refl _ | (simp; done) | (simp; omega) | omega)))))⟩
        · have hbd := needOk_bd hok2
          simp only at hbd
          have hp := mul_bd (a := stripCount ⟨x1, x2, x3⟩ m) (b := x2) (by omega) hc2 (by omega) hbd.2.1.2
          clear hbd
          go_wp2_with (go_at_call 15; refine (stripCountI_any _ _ _ _ _).mono ?_; rintro e w2 ⟨rfl, hb2⟩; obtain ⟨hc2, hf2⟩ := bcell hb2; have hz2 := hb2.size; (try simp at hz2); (try (have hy2_W_0 : W.heap.size < w2.heap.size := (by omega))); (try (have hy2_W_1 : W.heap.size + 1 < w2.heap.size := (by omega))); (try (have hy2_W_2 : W.heap.size + 2 < w2.heap.size := (by omega))); (try (have hy2_wr_0 : wr.heap.size < w2.heap.size := (by omega))); (try (have hy2_wr_1 : wr.heap.size + 1 < w2.heap.size := (by omega))); (try (have hy2_wr_2 : wr.heap.size + 2 < w2.heap.size := (by omega))); (try (have hy2_w1_0 : w1.heap.size < w2.heap.size := (by omega))); (try (have hy2_w1_1 : w1.heap.size + 1 < w2.heap.size := (by omega))); (try (have hy2_w1_2 : w1.heap.size + 2 < w2.heap.size := (by omega))); (try (have hyb2 : b < w2.heap.size := (by omega))))
          go_roundw
          case rel =>
            refine ⟨k + 1, s + stripCount ⟨x1, x2, x3⟩ m * x2, by omega, by go_num, rfl, by omega, by omega, by (repeat (first | exact Below.refl _ _ | assumption | (refine Below.drew ?_) | (refine below_drewN ?_ _) | (refine Below.alloc ?_ (by first | exact Nat.le_refl _ | (simp; done) | (simp; omega) | omega) _) | (refine Below.setCell ?_ (by first | exact Nat.le_refl _ | (simp; done) | (simp; omega) | omega) _) | (refine Below.trans ?_ (Below.mono (by assumption) (by first | exact Nat.le_refl _ | (simp; done) | (simp; omega) | omega))))), ?_, ?_⟩
            · have := sum_map_take_succ (p := id) (w := m) hX.out hsum.out
              exact this
            · refine all_map_take_succ hX.out hall.out ?_
              exact decide_eq_true (by show 0 ≤ stripCount ⟨x1, x2, x3⟩ m; omega)
          case measure => simp [intOf]; omega
      · go_wp2
        go_ret
        obtain rfl : k = n := by omega
        exact ⟨ret_i (by rw [← HX.out, hsum.out]; exact lengthBy_end hlen.out hall.out), by (repeat (first | exact Below.refl _ _ | assumption | (refine Below.drew ?_) | (refine below_drewN ?_ _) | (refine Below.alloc ?_ (by first | exact Nat.le_refl _ | (simp; done) | (simp; omega) | omega) _) | (refine Below.setCell ?_ (by first | exact Nat.le_refl _ | (simp; done) | (simp; omega) | omega) _) | (refine Below.trans ?_ (Below.mono (by assumption) (by first | exact Nat.le_refl _ | (simp; done) | (simp; omega) | omega)))))⟩
  · have hok' : needsOk xs = false := by simpa using hok
    have hX : -1 = stripLength xs m := by unfold stripLength; rw [if_neg hok]
    generalize stripLength xs m = R at *
    subst hX
    go_enter Try.func24, Try.ntmps24
    go_wp2_with (go_at_call 21; refine (needsOkI_any _ _ _ xs _ h (by omega)).mono ?_; rintro e w1 ⟨rfl, hb1⟩; obtain ⟨hc1, hf1⟩ := bcell hb1; have hz1 := hb1.size)
    go_ret
    exact ⟨rfl, by (repeat (first | exact Below.refl _ _ | assumption | (refine Below.drew ?_) | (refine below_drewN ?_ _) | (refine Below.alloc ?_ (by first | exact Nat.le_refl _ | (simp; done) | (simp; omega) | omega) _) | (refine Below.setCell ?_ (by first | exact Nat.le_refl _ | (simp; done) | (simp; omega) | omega) _) | (refine Below.trans ?_ (Below.mono (by assumption) (by first | exact Nat.le_refl _ | (simp; done) | (simp; omega) | omega)))))⟩

theorem stripLengthS_any (A : Option Addr) (n c : Nat) (xs : List Need) (m : Int) (W : World) (h : Rd W A n 3 xs needC) (hn : n ≤ 1048576) :
    Calls Try.prog 23 #[.slice A n c, .int .i64 m] W fun e w' => e = .returned (.int .i64 (stripLength xs m)) ∧ Below W.heap.size W w' := by
  by_cases hok : needsOk xs = true
  · have hX : lengthBy id m xs = stripLength xs m := by unfold stripLength; rw [if_pos hok]
    generalize stripLength xs m = R at *
    have HX := Lib.hid hX
    have hlen := Lib.hid h.len
    have hn8 : n ≤ 8 := by have := needsOk_len hok; rw [h.len] at this; exact this
    have HOK := Lib.hid hok
    go_enter Try.func23, Try.ntmps23
    go_wp2_with (go_at_call 19; refine (needsOkS_any _ _ _ xs _ h (by omega)).mono ?_; rintro e w1 ⟨rfl, hb1⟩; obtain ⟨hc1, hf1⟩ := bcell hb1; have hz1 := hb1.size)
    have hB1 : Below W.heap.size W w1 := hb1
    clear hX hok hc1 hf1
    have HOK := HOK
    go_loopw [5, 6] (fun o i wr => ∃ (k : Nat) (s : Int), k ≤ n ∧ i = .int .i64 k ∧ o = .int .i64 s ∧ 0 ≤ s ∧ s ≤ 80000 * (k : Int) ∧ Below W.heap.size W wr ∧ Hid (s = sumBy m ((xs.map id).take k)) ∧ Hid (((xs.map id).take k).all (fun n => decide (0 ≤ stripCount n m)) = true)) (fun _ i _ => n - (intOf i).toNat)
    case atStart => exact ⟨0, 0, Nat.zero_le _, rfl, rfl, by omega, by omega, hb1, by simp [Hid, sumBy], by simp [Hid]⟩
    case round =>
      obtain ⟨k, s, hk, rfl, rfl, hs0, hs1, hB, hsum, hall⟩ := hrel
      have hz := hB.size
      by_cases hlt : k < n
      · obtain ⟨b, off, x, rfl, hbW, hx, h0, h1, h2⟩ := h.need hlt hB
        have HN := Lib.hid (needsOk_at HOK.out hx)
        have hX := Lib.hid hx
        clear hx
        obtain ⟨x1, x2, x3⟩ := x
        simp only at h0 h1 h2
        have hbr : b < wr.heap.size := by omega
        rcases strip_bd ⟨x1, x2, x3⟩ m with hc | ⟨hok2, hc1, hc2⟩
        · go_wp2_with (go_at_call 13; refine (stripCountS_any _ _ _ _ _).mono ?_; rintro e w2 ⟨rfl, hb2⟩; obtain ⟨hc2, hf2⟩ := bcell hb2; have hz2 := hb2.size; (try simp at hz2); (try (have hy2_W_0 : W.heap.size < w2.heap.size := (by omega))); (try (have hy2_W_1 : W.heap.size + 1 < w2.heap.size := (by omega))); (try (have hy2_W_2 : W.heap.size + 2 < w2.heap.size := (by omega))); (try (have hy2_wr_0 : wr.heap.size < w2.heap.size := (by omega))); (try (have hy2_wr_1 : wr.heap.size + 1 < w2.heap.size := (by omega))); (try (have hy2_wr_2 : wr.heap.size + 2 < w2.heap.size := (by omega))); (try (have hy2_w1_0 : w1.heap.size < w2.heap.size := (by omega))); (try (have hy2_w1_1 : w1.heap.size + 1 < w2.heap.size := (by omega))); (try (have hy2_w1_2 : w1.heap.size + 2 < w2.heap.size := (by omega))); (try (have hyb2 : b < w2.heap.size := (by omega))))
          go_ret
          exact ⟨ret_i (by rw [← HX.out]; exact lengthBy_bad hX.out (by show stripCount ⟨x1, x2, x3⟩ m < 0; omega)), by (repeat (first | exact Below.refl _ _ | assumption | (refine Below.drew ?_) | (refine below_drewN ?_ _) | (refine Below.alloc ?_ (by first | exact Nat.le_refl _ | (simp; done) | (simp; omega) | omega) _) | (refine Below.setCell ?_ (by first | exact Nat.le_refl _ | (simp; done) | (simp; omega) | omega) _) | (refine Below.trans ?_ (Below.mono (by assumption) (by first | exact Nat.le_refl _ | (simp; done) | (simp; omega) | omega)))))⟩
        · have hbd := needOk_bd hok2
          simp only at hbd
          have hp := mul_bd (a := stripCount ⟨x1, x2, x3⟩ m) (b := x2) (by omega) hc2 (by omega) hbd.2.1.2
          clear hbd
          go_wp2_with (go_at_call 13; refine (stripCountS_any _ _ _ _ _).mono ?_; rintro e w2 ⟨rfl, hb2⟩; obtain ⟨hc2, hf2⟩ := bcell hb2; have hz2 := hb2.size; (try simp at hz2); (try (have hy2_W_0 : W.heap.size < w2.heap.size := (by omega))); (try (have hy2_W_1 : W.heap.size + 1 < w2.heap.size := (by omega))); (try (have hy2_W_2 : W.heap.size + 2 < w2.heap.size := (by omega))); (try (have hy2_wr_0 : wr.heap.size < w2.heap.size := (by omega))); (try (have hy2_wr_1 : wr.heap.size + 1 < w2.heap.size := (by omega))); (try (have hy2_wr_2 : wr.heap.size + 2 < w2.heap.size := (by omega))); (try (have hy2_w1_0 : w1.heap.size < w2.heap.size := (by omega))); (try (have hy2_w1_1 : w1.heap.size + 1 < w2.heap.size := (by omega))); (try (have hy2_w1_2 : w1.heap.size + 2 < w2.heap.size := (by omega))); (try (have hyb2 : b < w2.heap.size := (by omega))))
          go_roundw
          case rel =>
            refine ⟨k + 1, s + stripCount ⟨x1, x2, x3⟩ m * x2, by omega, by go_num, rfl, by omega, by omega, by (repeat (first | exact Below.refl _ _ | assumption | (refine Below.drew ?_) | (refine below_drewN ?_ _) | (refine Below.alloc ?_ (by first | exact Nat.le_refl _ | (simp; done) | (simp; omega) | omega) _) | (refine Below.setCell ?_ (by first | exact Nat.le_refl _ | (simp; done) | (simp; omega) | omega) _) | (refine Below.trans ?_ (Below.mono (by assumption) (by first | exact Nat.le_refl _ | (simp; done) | (simp; omega) | omega))))), ?_, ?_⟩
            · have := sum_map_take_succ (p := id) (w := m) hX.out hsum.out
              exact this
            · refine all_map_take_succ hX.out hall.out ?_
              exact decide_eq_true (by show 0 ≤ stripCount ⟨x1, x2, x3⟩ m; omega)
          case measure => simp [intOf]; omega
      · go_wp2
        go_ret
        obtain rfl : k = n := by omega
        exact ⟨ret_i (by rw [← HX.out, hsum.out]; exact lengthBy_end hlen.out hall.out), by (repeat (first | exact Below.refl _ _ | assumption | (refine Below.drew ?_) | (refine below_drewN ?_ _) | (refine Below.alloc ?_ (by first | exact Nat.le_refl _ | (simp; done) | (simp; omega) | omega) _) | (refine Below.setCell ?_ (by first | exact Nat.le_refl _ | (simp; done) | (simp; omega) | omega) _) | (refine Below.trans ?_ (Below.mono (by assumption) (by first | exact Nat.le_refl _ | (simp; done) | (simp; omega) | omega)))))⟩
  · have hok' : needsOk xs = false := by simpa using hok
    have hX : -1 = stripLength xs m := by unfold stripLength; rw [if_neg hok]
    generalize stripLength xs m = R at *
    subst hX
    go_enter Try.func23, Try.ntmps23
    go_wp2_with (go_at_call 19; refine (needsOkS_any _ _ _ xs _ h (by omega)).mono ?_; rintro e w1 ⟨rfl, hb1⟩; obtain ⟨hc1, hf1⟩ := bcell hb1; have hz1 := hb1.size)
    go_ret
    exact ⟨rfl, by (repeat (first | exact Below.refl _ _ | assumption | (refine Below.drew ?_) | (refine below_drewN ?_ _) | (refine Below.alloc ?_ (by first | exact Nat.le_refl _ | (simp; done) | (simp; omega) | omega) _) | (refine Below.setCell ?_ (by first | exact Nat.le_refl _ | (simp; done) | (simp; omega) | omega) _) | (refine Below.trans ?_ (Below.mono (by assumption) (by first | exact Nat.le_refl _ | (simp; done) | (simp; omega) | omega)))))⟩

theorem leastLengthI_any (A : Option Addr) (n c : Nat) (xs : List Need) (m : Int) (W : World) (h : Rd W A n 3 xs needC) (hn : n ≤ 1048576) :
    Calls Try.prog 26 #[.slice A n c, .int .i64 m] W fun e w' => e = .returned (.int .i64 (leastLength xs m)) ∧ Below W.heap.size W w' := by
  by_cases hok : needsOk xs = true
  · have hX : lengthBy (fun n => pick n m) m xs = leastLength xs m := by unfold leastLength; rw [if_pos hok]
    generalize leastLength xs m = R at *
    have HX := Lib.hid hX
    have hlen := Lib.hid h.len
    have hn8 : n ≤ 8 := by have := needsOk_len hok; rw [h.len] at this; exact this
    have HOK := Lib.hid hok
    go_enter Try.func26, Try.ntmps26
    go_wp2_with (go_at_call 21; refine (needsOkI_any _ _ _ xs _ h (by omega)).mono ?_; rintro e w1 ⟨rfl, hb1⟩; obtain ⟨hc1, hf1⟩ := bcell hb1; have hz1 := hb1.size)
    have hB1 : Below W.heap.size W w1 := hb1
    clear hX hok hc1 hf1
    have HOK := HOK
    go_loopw [5, 14] (fun o i wr => ∃ (k : Nat) (s : Int), k ≤ n ∧ i = .int .i64 k ∧ o = .int .i64 s ∧ 0 ≤ s ∧ s ≤ 80000 * (k : Int) ∧ Below W.heap.size W wr ∧ Hid (s = sumBy m ((xs.map (fun n => pick n m)).take k)) ∧ Hid (((xs.map (fun n => pick n m)).take k).all (fun n => decide (0 ≤ stripCount n m)) = true)) (fun _ i _ => n - (intOf i).toNat)
    case atStart => exact ⟨0, 0, Nat.zero_le _, rfl, rfl, by omega, by omega, hb1, by simp [Hid, sumBy], by simp [Hid]⟩
    case round =>
      obtain ⟨k, s, hk, rfl, rfl, hs0, hs1, hB, hsum, hall⟩ := hrel
      have hz := hB.size
      by_cases hlt : k < n
      · obtain ⟨b, off, x, rfl, hbW, hx, h0, h1, h2⟩ := h.need hlt hB
        have HN := Lib.hid (needsOk_at HOK.out hx)
        have hX := Lib.hid hx
        clear hx
        obtain ⟨x1, x2, x3⟩ := x
        simp only at h0 h1 h2
        have hbr : b < wr.heap.size := by omega
        by_cases hbw : betterWay ⟨x1, x2, x3⟩ m = true
        · have HP := Lib.hid (show pick ⟨x1, x2, x3⟩ m = ⟨x1, x2, x3⟩ by unfold pick; rw [if_pos hbw])
          rcases strip_bd ⟨x1, x2, x3⟩ m with hc | ⟨hok2, hc1, hc2⟩
          · go_wp2_with (first | (go_at_call 17; refine (betterWayI_any _ _ _ _ _).mono ?_; rintro e w3 ⟨rfl, hb3⟩; obtain ⟨hc3, hf3⟩ := bcell hb3; have hz3 := hb3.size; (try simp at hz3); (try (have hy3_W_0 : W.heap.size < w3.heap.size := (by omega))); (try (have hy3_W_1 : W.heap.size + 1 < w3.heap.size := (by omega))); (try (have hy3_W_2 : W.heap.size + 2 < w3.heap.size := (by omega))); (try (have hy3_wr_0 : wr.heap.size < w3.heap.size := (by omega))); (try (have hy3_wr_1 : wr.heap.size + 1 < w3.heap.size := (by omega))); (try (have hy3_wr_2 : wr.heap.size + 2 < w3.heap.size := (by omega))); (try (have hy3_w1_0 : w1.heap.size < w3.heap.size := (by omega))); (try (have hy3_w1_1 : w1.heap.size + 1 < w3.heap.size := (by omega))); (try (have hy3_w1_2 : w1.heap.size + 2 < w3.heap.size := (by omega))); (try (have hy3_w2_0 : w2.heap.size < w3.heap.size := (by omega))); (try (have hy3_w2_1 : w2.heap.size + 1 < w3.heap.size := (by omega))); (try (have hy3_w2_2 : w2.heap.size + 2 < w3.heap.size := (by omega))); (try (have hyb3 : b < w3.heap.size := (by omega)))) | (go_at_call 15; refine (stripCountI_any _ _ _ _ _).mono ?_; rintro e w5 ⟨rfl, hb5⟩; obtain ⟨hc5, hf5⟩ := bcell hb5; have hz5 := hb5.size; (try simp at hz5); (try (have hy5_W_0 : W.heap.size < w5.heap.size := (by omega))); (try (have hy5_W_1 : W.heap.size + 1 < w5.heap.size := (by omega))); (try (have hy5_W_2 : W.heap.size + 2 < w5.heap.size := (by omega))); (try (have hy5_wr_0 : wr.heap.size < w5.heap.size := (by omega))); (try (have hy5_wr_1 : wr.heap.size + 1 < w5.heap.size := (by omega))); (try (have hy5_wr_2 : wr.heap.size + 2 < w5.heap.size := (by omega))); (try (have hy5_w1_0 : w1.heap.size < w5.heap.size := (by omega))); (try (have hy5_w1_1 : w1.heap.size + 1 < w5.heap.size := (by omega))); (try (have hy5_w1_2 : w1.heap.size + 2 < w5.heap.size := (by omega))); (try (have hy5_w2_0 : w2.heap.size < w5.heap.size := (by omega))); (try (have hy5_w2_1 : w2.heap.size + 1 < w5.heap.size := (by omega))); (try (have hy5_w2_2 : w2.heap.size + 2 < w5.heap.size := (by omega))); (try (have hy5_w3_0 : w3.heap.size < w5.heap.size := (by omega))); (try (have hy5_w3_1 : w3.heap.size + 1 < w5.heap.size := (by omega))); (try (have hy5_w3_2 : w3.heap.size + 2 < w5.heap.size := (by omega))); (try (have hy5_w4_0 : w4.heap.size < w5.heap.size := (by omega))); (try (have hy5_w4_1 : w4.heap.size + 1 < w5.heap.size := (by omega))); (try (have hy5_w4_2 : w4.heap.size + 2 < w5.heap.size := (by omega))); (try (have hyb5 : b < w5.heap.size := (by omega)))))
            go_ret
            exact ⟨ret_i (by rw [← HX.out]; exact lengthBy_bad hX.out (by simp only [HP.out]; omega)), by (repeat (first | exact Below.refl _ _ | assumption | (refine Below.drew ?_) | (refine below_drewN ?_ _) | (refine Below.alloc ?_ (by first | exact Nat.le_refl _ | (simp; done) | (simp; omega) | omega) _) | (refine Below.setCell ?_ (by first | exact Nat.le_refl _ | (simp; done) | (simp; omega) | omega) _) | (refine Below.trans ?_ (Below.mono (by assumption) (by first | exact Nat.le_refl _ | (simp; done) | (simp; omega) | omega)))))⟩
          · have hbd := needOk_bd hok2
            simp only at hbd
            have hp := mul_bd (a := stripCount ⟨x1, x2, x3⟩ m) (b := x2) (by omega) hc2 (by omega) hbd.2.1.2
            clear hbd
            go_wp2_with (first | (go_at_call 17; refine (betterWayI_any _ _ _ _ _).mono ?_; rintro e w3 ⟨rfl, hb3⟩; obtain ⟨hc3, hf3⟩ := bcell hb3; have hz3 := hb3.size; (try simp at hz3); (try (have hy3_W_0 : W.heap.size < w3.heap.size := (by omega))); (try (have hy3_W_1 : W.heap.size + 1 < w3.heap.size := (by omega))); (try (have hy3_W_2 : W.heap.size + 2 < w3.heap.size := (by omega))); (try (have hy3_wr_0 : wr.heap.size < w3.heap.size := (by omega))); (try (have hy3_wr_1 : wr.heap.size + 1 < w3.heap.size := (by omega))); (try (have hy3_wr_2 : wr.heap.size + 2 < w3.heap.size := (by omega))); (try (have hy3_w1_0 : w1.heap.size < w3.heap.size := (by omega))); (try (have hy3_w1_1 : w1.heap.size + 1 < w3.heap.size := (by omega))); (try (have hy3_w1_2 : w1.heap.size + 2 < w3.heap.size := (by omega))); (try (have hy3_w2_0 : w2.heap.size < w3.heap.size := (by omega))); (try (have hy3_w2_1 : w2.heap.size + 1 < w3.heap.size := (by omega))); (try (have hy3_w2_2 : w2.heap.size + 2 < w3.heap.size := (by omega))); (try (have hyb3 : b < w3.heap.size := (by omega)))) | (go_at_call 15; refine (stripCountI_any _ _ _ _ _).mono ?_; rintro e w5 ⟨rfl, hb5⟩; obtain ⟨hc5, hf5⟩ := bcell hb5; have hz5 := hb5.size; (try simp at hz5); (try (have hy5_W_0 : W.heap.size < w5.heap.size := (by omega))); (try (have hy5_W_1 : W.heap.size + 1 < w5.heap.size := (by omega))); (try (have hy5_W_2 : W.heap.size + 2 < w5.heap.size := (by omega))); (try (have hy5_wr_0 : wr.heap.size < w5.heap.size := (by omega))); (try (have hy5_wr_1 : wr.heap.size + 1 < w5.heap.size := (by omega))); (try (have hy5_wr_2 : wr.heap.size + 2 < w5.heap.size := (by omega))); (try (have hy5_w1_0 : w1.heap.size < w5.heap.size := (by omega))); (try (have hy5_w1_1 : w1.heap.size + 1 < w5.heap.size := (by omega))); (try (have hy5_w1_2 : w1.heap.size + 2 < w5.heap.size := (by omega))); (try (have hy5_w2_0 : w2.heap.size < w5.heap.size := (by omega))); (try (have hy5_w2_1 : w2.heap.size + 1 < w5.heap.size := (by omega))); (try (have hy5_w2_2 : w2.heap.size + 2 < w5.heap.size := (by omega))); (try (have hy5_w3_0 : w3.heap.size < w5.heap.size := (by omega))); (try (have hy5_w3_1 : w3.heap.size + 1 < w5.heap.size := (by omega))); (try (have hy5_w3_2 : w3.heap.size + 2 < w5.heap.size := (by omega))); (try (have hy5_w4_0 : w4.heap.size < w5.heap.size := (by omega))); (try (have hy5_w4_1 : w4.heap.size + 1 < w5.heap.size := (by omega))); (try (have hy5_w4_2 : w4.heap.size + 2 < w5.heap.size := (by omega))); (try (have hyb5 : b < w5.heap.size := (by omega)))))
            go_roundw
            case rel =>
              refine ⟨k + 1, s + stripCount ⟨x1, x2, x3⟩ m * x2, by omega, by go_num, rfl, by omega, by omega, by (repeat (first | exact Below.refl _ _ | assumption | (refine Below.drew ?_) | (refine below_drewN ?_ _) | (refine Below.alloc ?_ (by first | exact Nat.le_refl _ | (simp; done) | (simp; omega) | omega) _) | (refine Below.setCell ?_ (by first | exact Nat.le_refl _ | (simp; done) | (simp; omega) | omega) _) | (refine Below.trans ?_ (Below.mono (by assumption) (by first | exact Nat.le_refl _ | (simp; done) | (simp; omega) | omega))))), ?_, ?_⟩
              · have := sum_map_take_succ (p := (fun n => pick n m)) (w := m) hX.out hsum.out
                simp only [HP.out] at this
                exact this
              · refine all_map_take_succ hX.out hall.out ?_
                simp only [HP.out]
                exact decide_eq_true (by show 0 ≤ stripCount ⟨x1, x2, x3⟩ m; omega)
            case measure => simp [intOf]; omega
        · have hbw' : betterWay ⟨x1, x2, x3⟩ m = false := by simpa using hbw
          clear hbw
          have HP := Lib.hid (show pick ⟨x1, x2, x3⟩ m = ⟨x2, x1, x3⟩ by unfold pick; rw [hbw']; rfl)
          rcases strip_bd ⟨x2, x1, x3⟩ m with hc | ⟨hok2, hc1, hc2⟩
          · go_wp2_with (first | (go_at_call 17; refine (betterWayI_any _ _ _ _ _).mono ?_; rintro e w3 ⟨rfl, hb3⟩; obtain ⟨hc3, hf3⟩ := bcell hb3; have hz3 := hb3.size; (try simp at hz3); (try (have hy3_W_0 : W.heap.size < w3.heap.size := (by omega))); (try (have hy3_W_1 : W.heap.size + 1 < w3.heap.size := (by omega))); (try (have hy3_W_2 : W.heap.size + 2 < w3.heap.size := (by omega))); (try (have hy3_wr_0 : wr.heap.size < w3.heap.size := (by omega))); (try (have hy3_wr_1 : wr.heap.size + 1 < w3.heap.size := (by omega))); (try (have hy3_wr_2 : wr.heap.size + 2 < w3.heap.size := (by omega))); (try (have hy3_w1_0 : w1.heap.size < w3.heap.size := (by omega))); (try (have hy3_w1_1 : w1.heap.size + 1 < w3.heap.size := (by omega))); (try (have hy3_w1_2 : w1.heap.size + 2 < w3.heap.size := (by omega))); (try (have hy3_w2_0 : w2.heap.size < w3.heap.size := (by omega))); (try (have hy3_w2_1 : w2.heap.size + 1 < w3.heap.size := (by omega))); (try (have hy3_w2_2 : w2.heap.size + 2 < w3.heap.size := (by omega))); (try (have hyb3 : b < w3.heap.size := (by omega)))) | (go_at_call 53; refine (exchanged_any _ _ _ _).mono ?_; rintro e w4 ⟨rfl, hb4⟩; obtain ⟨hc4, hf4⟩ := bcell hb4; have hz4 := hb4.size; (try simp at hz4); (try (have hy4_W_0 : W.heap.size < w4.heap.size := (by omega))); (try (have hy4_W_1 : W.heap.size + 1 < w4.heap.size := (by omega))); (try (have hy4_W_2 : W.heap.size + 2 < w4.heap.size := (by omega))); (try (have hy4_wr_0 : wr.heap.size < w4.heap.size := (by omega))); (try (have hy4_wr_1 : wr.heap.size + 1 < w4.heap.size := (by omega))); (try (have hy4_wr_2 : wr.heap.size + 2 < w4.heap.size := (by omega))); (try (have hy4_w1_0 : w1.heap.size < w4.heap.size := (by omega))); (try (have hy4_w1_1 : w1.heap.size + 1 < w4.heap.size := (by omega))); (try (have hy4_w1_2 : w1.heap.size + 2 < w4.heap.size := (by omega))); (try (have hy4_w2_0 : w2.heap.size < w4.heap.size := (by omega))); (try (have hy4_w2_1 : w2.heap.size + 1 < w4.heap.size := (by omega))); (try (have hy4_w2_2 : w2.heap.size + 2 < w4.heap.size := (by omega))); (try (have hy4_w3_0 : w3.heap.size < w4.heap.size := (by omega))); (try (have hy4_w3_1 : w3.heap.size + 1 < w4.heap.size := (by omega))); (try (have hy4_w3_2 : w3.heap.size + 2 < w4.heap.size := (by omega))); (try (have hyb4 : b < w4.heap.size := (by omega)))) | (go_at_call 15; refine (stripCountI_any _ _ _ _ _).mono ?_; rintro e w5 ⟨rfl, hb5⟩; obtain ⟨hc5, hf5⟩ := bcell hb5; have hz5 := hb5.size; (try simp at hz5); (try (have hy5_W_0 : W.heap.size < w5.heap.size := (by omega))); (try (have hy5_W_1 : W.heap.size + 1 < w5.heap.size := (by omega))); (try (have hy5_W_2 : W.heap.size + 2 < w5.heap.size := (by omega))); (try (have hy5_wr_0 : wr.heap.size < w5.heap.size := (by omega))); (try (have hy5_wr_1 : wr.heap.size + 1 < w5.heap.size := (by omega))); (try (have hy5_wr_2 : wr.heap.size + 2 < w5.heap.size := (by omega))); (try (have hy5_w1_0 : w1.heap.size < w5.heap.size := (by omega))); (try (have hy5_w1_1 : w1.heap.size + 1 < w5.heap.size := (by omega))); (try (have hy5_w1_2 : w1.heap.size + 2 < w5.heap.size := (by omega))); (try (have hy5_w2_0 : w2.heap.size < w5.heap.size := (by omega))); (try (have hy5_w2_1 : w2.heap.size + 1 < w5.heap.size := (by omega))); (try (have hy5_w2_2 : w2.heap.size + 2 < w5.heap.size := (by omega))); (try (have hy5_w3_0 : w3.heap.size < w5.heap.size := (by omega))); (try (have hy5_w3_1 : w3.heap.size + 1 < w5.heap.size := (by omega))); (try (have hy5_w3_2 : w3.heap.size + 2 < w5.heap.size := (by omega))); (try (have hy5_w4_0 : w4.heap.size < w5.heap.size := (by omega))); (try (have hy5_w4_1 : w4.heap.size + 1 < w5.heap.size := (by omega))); (try (have hy5_w4_2 : w4.heap.size + 2 < w5.heap.size := (by omega))); (try (have hyb5 : b < w5.heap.size := (by omega)))))
            go_ret
            exact ⟨ret_i (by rw [← HX.out]; exact lengthBy_bad hX.out (by simp only [HP.out]; omega)), by (repeat (first | exact Below.refl _ _ | assumption | (refine Below.drew ?_) | (refine below_drewN ?_ _) | (refine Below.alloc ?_ (by first | exact Nat.le_refl _ | (simp; done) | (simp; omega) | omega) _) | (refine Below.setCell ?_ (by first | exact Nat.le_refl _ | (simp; done) | (simp; omega) | omega) _) | (refine Below.trans ?_ (Below.mono (by assumption) (by first | exact Nat.le_refl _ | (simp; done) | (simp; omega) | omega)))))⟩
          · have hbd := needOk_bd hok2
            simp only at hbd
            have hp := mul_bd (a := stripCount ⟨x2, x1, x3⟩ m) (b := x1) (by omega) hc2 (by omega) hbd.2.1.2
            clear hbd
            go_wp2_with (first | (go_at_call 17; refine (betterWayI_any _ _ _ _ _).mono ?_; rintro e w3 ⟨rfl, hb3⟩; obtain ⟨hc3, hf3⟩ := bcell hb3; have hz3 := hb3.size; (try simp at hz3); (try (have hy3_W_0 : W.heap.size < w3.heap.size := (by omega))); (try (have hy3_W_1 : W.heap.size + 1 < w3.heap.size := (by omega))); (try (have hy3_W_2 : W.heap.size + 2 < w3.heap.size := (by omega))); (try (have hy3_wr_0 : wr.heap.size < w3.heap.size := (by omega))); (try (have hy3_wr_1 : wr.heap.size + 1 < w3.heap.size := (by omega))); (try (have hy3_wr_2 : wr.heap.size + 2 < w3.heap.size := (by omega))); (try (have hy3_w1_0 : w1.heap.size < w3.heap.size := (by omega))); (try (have hy3_w1_1 : w1.heap.size + 1 < w3.heap.size := (by omega))); (try (have hy3_w1_2 : w1.heap.size + 2 < w3.heap.size := (by omega))); (try (have hy3_w2_0 : w2.heap.size < w3.heap.size := (by omega))); (try (have hy3_w2_1 : w2.heap.size + 1 < w3.heap.size := (by omega))); (try (have hy3_w2_2 : w2.heap.size + 2 < w3.heap.size := (by omega))); (try (have hyb3 : b < w3.heap.size := (by omega)))) | (go_at_call 53; refine (exchanged_any _ _ _ _).mono ?_; rintro e w4 ⟨rfl, hb4⟩; obtain ⟨hc4, hf4⟩ := bcell hb4; have hz4 := hb4.size; (try simp at hz4); (try (have hy4_W_0 : W.heap.size < w4.heap.size := (by omega))); (try (have hy4_W_1 : W.heap.size + 1 < w4.heap.size := (by omega))); (try (have hy4_W_2 : W.heap.size + 2 < w4.heap.size := (by omega))); (try (have hy4_wr_0 : wr.heap.size < w4.heap.size := (by omega))); (try (have hy4_wr_1 : wr.heap.size + 1 < w4.heap.size := (by omega))); (try (have hy4_wr_2 : wr.heap.size + 2 < w4.heap.size := (by omega))); (try (have hy4_w1_0 : w1.heap.size < w4.heap.size := (by omega))); (try (have hy4_w1_1 : w1.heap.size + 1 < w4.heap.size := (by omega))); (try (have hy4_w1_2 : w1.heap.size + 2 < w4.heap.size := (by omega))); (try (have hy4_w2_0 : w2.heap.size < w4.heap.size := (by omega))); (try (have hy4_w2_1 : w2.heap.size + 1 < w4.heap.size := (by omega))); (try (have hy4_w2_2 : w2.heap.size + 2 < w4.heap.size := (by omega))); (try (have hy4_w3_0 : w3.heap.size < w4.heap.size := (by omega))); (try (have hy4_w3_1 : w3.heap.size + 1 < w4.heap.size := (by omega))); (try (have hy4_w3_2 : w3.heap.size + 2 < w4.heap.size := (by omega))); (try (have hyb4 : b < w4.heap.size := (by omega)))) | (go_at_call 15; refine (stripCountI_any _ _ _ _ _).mono ?_; rintro e w5 ⟨rfl, hb5⟩; obtain ⟨hc5, hf5⟩ := bcell hb5; have hz5 := hb5.size; (try simp at hz5); (try (have hy5_W_0 : W.heap.size < w5.heap.size := (by omega))); (try (have hy5_W_1 : W.heap.size + 1 < w5.heap.size := (by omega))); (try (have hy5_W_2 : W.heap.size + 2 < w5.heap.size := (by omega))); (try (have hy5_wr_0 : wr.heap.size < w5.heap.size := (by omega))); (try (have hy5_wr_1 : wr.heap.size + 1 < w5.heap.size := (by omega))); (try (have hy5_wr_2 : wr.heap.size + 2 < w5.heap.size := (by omega))); (try (have hy5_w1_0 : w1.heap.size < w5.heap.size := (by omega))); (try (have hy5_w1_1 : w1.heap.size + 1 < w5.heap.size := (by omega))); (try (have hy5_w1_2 : w1.heap.size + 2 < w5.heap.size := (by omega))); (try (have hy5_w2_0 : w2.heap.size < w5.heap.size := (by omega))); (try (have hy5_w2_1 : w2.heap.size + 1 < w5.heap.size := (by omega))); (try (have hy5_w2_2 : w2.heap.size + 2 < w5.heap.size := (by omega))); (try (have hy5_w3_0 : w3.heap.size < w5.heap.size := (by omega))); (try (have hy5_w3_1 : w3.heap.size + 1 < w5.heap.size := (by omega))); (try (have hy5_w3_2 : w3.heap.size + 2 < w5.heap.size := (by omega))); (try (have hy5_w4_0 : w4.heap.size < w5.heap.size := (by omega))); (try (have hy5_w4_1 : w4.heap.size + 1 < w5.heap.size := (by omega))); (try (have hy5_w4_2 : w4.heap.size + 2 < w5.heap.size := (by omega))); (try (have hyb5 : b < w5.heap.size := (by omega)))))
            go_roundw
            case rel =>
              refine ⟨k + 1, s + stripCount ⟨x2, x1, x3⟩ m * x1, by omega, by go_num, rfl, by omega, by omega, by (repeat (first | exact Below.refl _ _ | assumption | (refine Below.drew ?_) | (refine below_drewN ?_ _) | (refine Below.alloc ?_ (by first | exact Nat.le_refl _ | (simp; done) | (simp; omega) | omega) _) | (refine Below.setCell ?_ (by first | exact Nat.le_refl _ | (simp; done) | (simp; omega) | omega) _) | (refine Below.trans ?_ (Below.mono (by assumption) (by first | exact Nat.le_refl _ | (simp; done) | (simp; omega) | omega))))), ?_, ?_⟩
              · have := sum_map_take_succ (p := (fun n => pick n m)) (w := m) hX.out hsum.out
                simp only [HP.out] at this
                exact this
              · refine all_map_take_succ hX.out hall.out ?_
                simp only [HP.out]
                exact decide_eq_true (by show 0 ≤ stripCount ⟨x2, x1, x3⟩ m; omega)
            case measure => simp [intOf]; omega
      · go_wp2
        go_ret
        obtain rfl : k = n := by omega
        exact ⟨ret_i (by rw [← HX.out, hsum.out]; exact lengthBy_end hlen.out hall.out), by (repeat (first | exact Below.refl _ _ | assumption | (refine Below.drew ?_) | (refine below_drewN ?_ _) | (refine Below.alloc ?_ (by first | exact Nat.le_refl _ | (simp; done) | (simp; omega) | omega) _) | (refine Below.setCell ?_ (by first | exact Nat.le_refl _ | (simp; done) | (simp; omega) | omega) _) | (refine Below.trans ?_ (Below.mono (by assumption) (by first | exact Nat.le_refl _ | (simp; done) | (simp; omega) | omega)))))⟩
  · have hok' : needsOk xs = false := by simpa using hok
    have hX : -1 = leastLength xs m := by unfold leastLength; rw [if_neg hok]
    generalize leastLength xs m = R at *
    subst hX
    go_enter Try.func26, Try.ntmps26
    go_wp2_with (go_at_call 21; refine (needsOkI_any _ _ _ xs _ h (by omega)).mono ?_; rintro e w1 ⟨rfl, hb1⟩; obtain ⟨hc1, hf1⟩ := bcell hb1; have hz1 := hb1.size)
    go_ret
    exact ⟨rfl, by (repeat (first | exact Below.refl _ _ | assumption | (refine Below.drew ?_) | (refine below_drewN ?_ _) | (refine Below.alloc ?_ (by first | exact Nat.le_refl _ | (simp; done) | (simp; omega) | omega) _) | (refine Below.setCell ?_ (by first | exact Nat.le_refl _ | (simp; done) | (simp; omega) | omega) _) | (refine Below.trans ?_ (Below.mono (by assumption) (by first | exact Nat.le_refl _ | (simp; done) | (simp; omega) | omega)))))⟩

theorem leastLengthS_any (A : Option Addr) (n c : Nat) (xs : List Need) (m : Int) (W : World) (h : Rd W A n 3 xs needC) (hn : n ≤ 1048576) :
    Calls Try.prog 25 #[.slice A n c, .int .i64 m] W fun e w' => e = .returned (.int .i64 (leastLength xs m)) ∧ Below W.heap.size W w' := by
  by_cases hok : needsOk xs = true
  · have hX : lengthBy (fun n => pick n m) m xs = leastLength xs m := by unfold leastLength; rw [if_pos hok]
    generalize leastLength xs m = R at *
    have HX := Lib.hid hX
    have hlen := Lib.hid h.len
    have hn8 : n ≤ 8 := by have := needsOk_len hok; rw [h.len] at this; exact this
    have HOK := Lib.hid hok
    go_enter Try.func25, Try.ntmps25
    go_wp2_with (go_at_call 19; refine (needsOkS_any _ _ _ xs _ h (by omega)).mono ?_; rintro e w1 ⟨rfl, hb1⟩; obtain ⟨hc1, hf1⟩ := bcell hb1; have hz1 := hb1.size)
    have hB1 : Below W.heap.size W w1 := hb1
    clear hX hok hc1 hf1
    have HOK := HOK
    go_loopw [5, 6] (fun o i wr => ∃ (k : Nat) (s : Int), k ≤ n ∧ i = .int .i64 k ∧ o = .int .i64 s ∧ 0 ≤ s ∧ s ≤ 80000 * (k : Int) ∧ Below W.heap.size W wr ∧ Hid (s = sumBy m ((xs.map (fun n => pick n m)).take k)) ∧ Hid (((xs.map (fun n => pick n m)).take k).all (fun n => decide (0 ≤ stripCount n m)) = true)) (fun _ i _ => n - (intOf i).toNat)
    case atStart => exact ⟨0, 0, Nat.zero_le _, rfl, rfl, by omega, by omega, hb1, by simp [Hid, sumBy], by simp [Hid]⟩
    case round =>
      obtain ⟨k, s, hk, rfl, rfl, hs0, hs1, hB, hsum, hall⟩ := hrel
      have hz := hB.size
      by_cases hlt : k < n
      · obtain ⟨b, off, x, rfl, hbW, hx, h0, h1, h2⟩ := h.need hlt hB
        have HN := Lib.hid (needsOk_at HOK.out hx)
        have hX := Lib.hid hx
        clear hx
        obtain ⟨x1, x2, x3⟩ := x
        simp only at h0 h1 h2
        have hbr : b < wr.heap.size := by omega
        by_cases hbw : betterWay ⟨x1, x2, x3⟩ m = true
        · have HP := Lib.hid (show pick ⟨x1, x2, x3⟩ m = ⟨x1, x2, x3⟩ by unfold pick; rw [if_pos hbw])
          rcases strip_bd ⟨x1, x2, x3⟩ m with hc | ⟨hok2, hc1, hc2⟩
          · go_wp2_with (first | (go_at_call 16; refine (betterWayS_any _ _ _ _ _).mono ?_; rintro e w3 ⟨rfl, hb3⟩; obtain ⟨hc3, hf3⟩ := bcell hb3; have hz3 := hb3.size; (try simp at hz3); (try (have hy3_W_0 : W.heap.size < w3.heap.size := (by omega))); (try (have hy3_W_1 : W.heap.size + 1 < w3.heap.size := (by omega))); (try (have hy3_W_2 : W.heap.size + 2 < w3.heap.size := (by omega))); (try (have hy3_wr_0 : wr.heap.size < w3.heap.size := (by omega))); (try (have hy3_wr_1 : wr.heap.size + 1 < w3.heap.size := (by omega))); (try (have hy3_wr_2 : wr.heap.size + 2 < w3.heap.size := (by omega))); (try (have hy3_w1_0 : w1.heap.size < w3.heap.size := (by omega))); (try (have hy3_w1_1 : w1.heap.size + 1 < w3.heap.size := (by omega))); (try (have hy3_w1_2 : w1.heap.size + 2 < w3.heap.size := (by omega))); (try (have hy3_w2_0 : w2.heap.size < w3.heap.size := (by omega))); (try (have hy3_w2_1 : w2.heap.size + 1 < w3.heap.size := (by omega))); (try (have hy3_w2_2 : w2.heap.size + 2 < w3.heap.size := (by omega))); (try (have hyb3 : b < w3.heap.size := (by omega)))) | (go_at_call 13; refine (stripCountS_any _ _ _ _ _).mono ?_; rintro e w5 ⟨rfl, hb5⟩; obtain ⟨hc5, hf5⟩ := bcell hb5; have hz5 := hb5.size; (try simp at hz5); (try (have hy5_W_0 : W.heap.size < w5.heap.size := (by omega))); (try (have hy5_W_1 : W.heap.size + 1 < w5.heap.size := (by omega))); (try (have hy5_W_2 : W.heap.size + 2 < w5.heap.size := (by omega))); (try (have hy5_wr_0 : wr.heap.size < w5.heap.size := (by omega))); (try (have hy5_wr_1 : wr.heap.size + 1 < w5.heap.size := (by omega))); (try (have hy5_wr_2 : wr.heap.size + 2 < w5.heap.size := (by omega))); (try (have hy5_w1_0 : w1.heap.size < w5.heap.size := (by omega))); (try (have hy5_w1_1 : w1.heap.size + 1 < w5.heap.size := (by omega))); (try (have hy5_w1_2 : w1.heap.size + 2 < w5.heap.size := (by omega))); (try (have hy5_w2_0 : w2.heap.size < w5.heap.size := (by omega))); (try (have hy5_w2_1 : w2.heap.size + 1 < w5.heap.size := (by omega))); (try (have hy5_w2_2 : w2.heap.size + 2 < w5.heap.size := (by omega))); (try (have hy5_w3_0 : w3.heap.size < w5.heap.size := (by omega))); (try (have hy5_w3_1 : w3.heap.size + 1 < w5.heap.size := (by omega))); (try (have hy5_w3_2 : w3.heap.size + 2 < w5.heap.size := (by omega))); (try (have hy5_w4_0 : w4.heap.size < w5.heap.size := (by omega))); (try (have hy5_w4_1 : w4.heap.size + 1 < w5.heap.size := (by omega))); (try (have hy5_w4_2 : w4.heap.size + 2 < w5.heap.size := (by omega))); (try (have hyb5 : b < w5.heap.size := (by omega)))))
            go_ret
            exact ⟨ret_i (by rw [← HX.out]; exact lengthBy_bad hX.out (by simp only [HP.out]; omega)), by (repeat (first | exact Below.refl _ _ | assumption | (refine Below.drew ?_) | (refine below_drewN ?_ _) | (refine Below.alloc ?_ (by first | exact Nat.le_refl _ | (simp; done) | (simp; omega) | omega) _) | (refine Below.setCell ?_ (by first | exact Nat.le_refl _ | (simp; done) | (simp; omega) | omega) _) | (refine Below.trans ?_ (Below.mono (by assumption) (by first | exact Nat.le_refl _ | (simp; done) | (simp; omega) | omega)))))⟩
          · have hbd := needOk_bd hok2
            simp only at hbd
            have hp := mul_bd (a := stripCount ⟨x1, x2, x3⟩ m) (b := x2) (by omega) hc2 (by omega) hbd.2.1.2
            clear hbd
            go_wp2_with (first | (go_at_call 16; refine (betterWayS_any _ _ _ _ _).mono ?_; rintro e w3 ⟨rfl, hb3⟩; obtain ⟨hc3, hf3⟩ := bcell hb3; have hz3 := hb3.size; (try simp at hz3); (try (have hy3_W_0 : W.heap.size < w3.heap.size := (by omega))); (try (have hy3_W_1 : W.heap.size + 1 < w3.heap.size := (by omega))); (try (have hy3_W_2 : W.heap.size + 2 < w3.heap.size := (by omega))); (try (have hy3_wr_0 : wr.heap.size < w3.heap.size := (by omega))); (try (have hy3_wr_1 : wr.heap.size + 1 < w3.heap.size := (by omega))); (try (have hy3_wr_2 : wr.heap.size + 2 < w3.heap.size := (by omega))); (try (have hy3_w1_0 : w1.heap.size < w3.heap.size := (by omega))); (try (have hy3_w1_1 : w1.heap.size + 1 < w3.heap.size := (by omega))); (try (have hy3_w1_2 : w1.heap.size + 2 < w3.heap.size := (by omega))); (try (have hy3_w2_0 : w2.heap.size < w3.heap.size := (by omega))); (try (have hy3_w2_1 : w2.heap.size + 1 < w3.heap.size := (by omega))); (try (have hy3_w2_2 : w2.heap.size + 2 < w3.heap.size := (by omega))); (try (have hyb3 : b < w3.heap.size := (by omega)))) | (go_at_call 13; refine (stripCountS_any _ _ _ _ _).mono ?_; rintro e w5 ⟨rfl, hb5⟩; obtain ⟨hc5, hf5⟩ := bcell hb5; have hz5 := hb5.size; (try simp at hz5); (try (have hy5_W_0 : W.heap.size < w5.heap.size := (by omega))); (try (have hy5_W_1 : W.heap.size + 1 < w5.heap.size := (by omega))); (try (have hy5_W_2 : W.heap.size + 2 < w5.heap.size := (by omega))); (try (have hy5_wr_0 : wr.heap.size < w5.heap.size := (by omega))); (try (have hy5_wr_1 : wr.heap.size + 1 < w5.heap.size := (by omega))); (try (have hy5_wr_2 : wr.heap.size + 2 < w5.heap.size := (by omega))); (try (have hy5_w1_0 : w1.heap.size < w5.heap.size := (by omega))); (try (have hy5_w1_1 : w1.heap.size + 1 < w5.heap.size := (by omega))); (try (have hy5_w1_2 : w1.heap.size + 2 < w5.heap.size := (by omega))); (try (have hy5_w2_0 : w2.heap.size < w5.heap.size := (by omega))); (try (have hy5_w2_1 : w2.heap.size + 1 < w5.heap.size := (by omega))); (try (have hy5_w2_2 : w2.heap.size + 2 < w5.heap.size := (by omega))); (try (have hy5_w3_0 : w3.heap.size < w5.heap.size := (by omega))); (try (have hy5_w3_1 : w3.heap.size + 1 < w5.heap.size := (by omega))); (try (have hy5_w3_2 : w3.heap.size + 2 < w5.heap.size := (by omega))); (try (have hy5_w4_0 : w4.heap.size < w5.heap.size := (by omega))); (try (have hy5_w4_1 : w4.heap.size + 1 < w5.heap.size := (by omega))); (try (have hy5_w4_2 : w4.heap.size + 2 < w5.heap.size := (by omega))); (try (have hyb5 : b < w5.heap.size := (by omega)))))
            go_roundw
            case rel =>
              refine ⟨k + 1, s + stripCount ⟨x1, x2, x3⟩ m * x2, by omega, by go_num, rfl, by omega, by omega, by (repeat (first | exact Below.refl _ _ | assumption | (refine Below.drew ?_) | (refine below_drewN ?_ _) | (refine Below.alloc ?_ (by first | exact Nat.le_refl _ | (simp; done) | (simp; omega) | omega) _) | (refine Below.setCell ?_ (by first | exact Nat.le_refl _ | (simp; done) | (simp; omega) | omega) _) | (refine Below.trans ?_ (Below.mono (by assumption) (by first | exact Nat.le_refl _ | (simp; done) | (simp; omega) | omega))))), ?_, ?_⟩
              · have := sum_map_take_succ (p := (fun n => pick n m)) (w := m) hX.out hsum.out
                simp only [HP.out] at this
                exact this
              · refine all_map_take_succ hX.out hall.out ?_
                simp only [HP.out]
                exact decide_eq_true (by show 0 ≤ stripCount ⟨x1, x2, x3⟩ m; omega)
            case measure => simp [intOf]; omega
        · have hbw' : betterWay ⟨x1, x2, x3⟩ m = false := by simpa using hbw
          clear hbw
          have HP := Lib.hid (show pick ⟨x1, x2, x3⟩ m = ⟨x2, x1, x3⟩ by unfold pick; rw [hbw']; rfl)
          rcases strip_bd ⟨x2, x1, x3⟩ m with hc | ⟨hok2, hc1, hc2⟩
          · go_wp2_with (first | (go_at_call 16; refine (betterWayS_any _ _ _ _ _).mono ?_; rintro e w3 ⟨rfl, hb3⟩; obtain ⟨hc3, hf3⟩ := bcell hb3; have hz3 := hb3.size; (try simp at hz3); (try (have hy3_W_0 : W.heap.size < w3.heap.size := (by omega))); (try (have hy3_W_1 : W.heap.size + 1 < w3.heap.size := (by omega))); (try (have hy3_W_2 : W.heap.size + 2 < w3.heap.size := (by omega))); (try (have hy3_wr_0 : wr.heap.size < w3.heap.size := (by omega))); (try (have hy3_wr_1 : wr.heap.size + 1 < w3.heap.size := (by omega))); (try (have hy3_wr_2 : wr.heap.size + 2 < w3.heap.size := (by omega))); (try (have hy3_w1_0 : w1.heap.size < w3.heap.size := (by omega))); (try (have hy3_w1_1 : w1.heap.size + 1 < w3.heap.size := (by omega))); (try (have hy3_w1_2 : w1.heap.size + 2 < w3.heap.size := (by omega))); (try (have hy3_w2_0 : w2.heap.size < w3.heap.size := (by omega))); (try (have hy3_w2_1 : w2.heap.size + 1 < w3.heap.size := (by omega))); (try (have hy3_w2_2 : w2.heap.size + 2 < w3.heap.size := (by omega))); (try (have hyb3 : b < w3.heap.size := (by omega)))) | (go_at_call 52; refine (l15Turn_any _ _ _ _).mono ?_; rintro e w4 ⟨rfl, hb4⟩; obtain ⟨hc4, hf4⟩ := bcell hb4; have hz4 := hb4.size; (try simp at hz4); (try (have hy4_W_0 : W.heap.size < w4.heap.size := (by omega))); (try (have hy4_W_1 : W.heap.size + 1 < w4.heap.size := (by omega))); (try (have hy4_W_2 : W.heap.size + 2 < w4.heap.size := (by omega))); (try (have hy4_wr_0 : wr.heap.size < w4.heap.size := (by omega))); (try (have hy4_wr_1 : wr.heap.size + 1 < w4.heap.size := (by omega))); (try (have hy4_wr_2 : wr.heap.size + 2 < w4.heap.size := (by omega))); (try (have hy4_w1_0 : w1.heap.size < w4.heap.size := (by omega))); (try (have hy4_w1_1 : w1.heap.size + 1 < w4.heap.size := (by omega))); (try (have hy4_w1_2 : w1.heap.size + 2 < w4.heap.size := (by omega))); (try (have hy4_w2_0 : w2.heap.size < w4.heap.size := (by omega))); (try (have hy4_w2_1 : w2.heap.size + 1 < w4.heap.size := (by omega))); (try (have hy4_w2_2 : w2.heap.size + 2 < w4.heap.size := (by omega))); (try (have hy4_w3_0 : w3.heap.size < w4.heap.size := (by omega))); (try (have hy4_w3_1 : w3.heap.size + 1 < w4.heap.size := (by omega))); (try (have hy4_w3_2 : w3.heap.size + 2 < w4.heap.size := (by omega))); (try (have hyb4 : b < w4.heap.size := (by omega)))) | (go_at_call 13; refine (stripCountS_any _ _ _ _ _).mono ?_; rintro e w5 ⟨rfl, hb5⟩; obtain ⟨hc5, hf5⟩ := bcell hb5; have hz5 := hb5.size; (try simp at hz5); (try (have hy5_W_0 : W.heap.size < w5.heap.size := (by omega))); (try (have hy5_W_1 : W.heap.size + 1 < w5.heap.size := (by omega))); (try (have hy5_W_2 : W.heap.size + 2 < w5.heap.size := (by omega))); (try (have hy5_wr_0 : wr.heap.size < w5.heap.size := (by omega))); (try (have hy5_wr_1 : wr.heap.size + 1 < w5.heap.size := (by omega))); (try (have hy5_wr_2 : wr.heap.size + 2 < w5.heap.size := (by omega))); (try (have hy5_w1_0 : w1.heap.size < w5.heap.size := (by omega))); (try (have hy5_w1_1 : w1.heap.size + 1 < w5.heap.size := (by omega))); (try (have hy5_w1_2 : w1.heap.size + 2 < w5.heap.size := (by omega))); (try (have hy5_w2_0 : w2.heap.size < w5.heap.size := (by omega))); (try (have hy5_w2_1 : w2.heap.size + 1 < w5.heap.size := (by omega))); (try (have hy5_w2_2 : w2.heap.size + 2 < w5.heap.size := (by omega))); (try (have hy5_w3_0 : w3.heap.size < w5.heap.size := (by omega))); (try (have hy5_w3_1 : w3.heap.size + 1 < w5.heap.size := (by omega))); (try (have hy5_w3_2 : w3.heap.size + 2 < w5.heap.size := (by omega))); (try (have hy5_w4_0 : w4.heap.size < w5.heap.size := (by omega))); (try (have hy5_w4_1 : w4.heap.size + 1 < w5.heap.size := (by omega))); (try (have hy5_w4_2 : w4.heap.size + 2 < w5.heap.size := (by omega))); (try (have hyb5 : b < w5.heap.size := (by omega)))))
            go_ret
            exact ⟨ret_i (by rw [← HX.out]; exact lengthBy_bad hX.out (by simp only [HP.out]; omega)), by (repeat (first | exact Below.refl _ _ | assumption | (refine Below.drew ?_) | (refine below_drewN ?_ _) | (refine Below.alloc ?_ (by first | exact Nat.le_refl _ | (simp; done) | (simp; omega) | omega) _) | (refine Below.setCell ?_ (by first | exact Nat.le_refl _ | (simp; done) | (simp; omega) | omega) _) | (refine Below.trans ?_ (Below.mono (by assumption) (by first | exact Nat.le_refl _ | (simp; done) | (simp; omega) | omega)))))⟩
          · have hbd := needOk_bd hok2
            simp only at hbd
            have hp := mul_bd (a := stripCount ⟨x2, x1, x3⟩ m) (b := x1) (by omega) hc2 (by omega) hbd.2.1.2
            clear hbd
            go_wp2_with (first | (go_at_call 16; refine (betterWayS_any _ _ _ _ _).mono ?_; rintro e w3 ⟨rfl, hb3⟩; obtain ⟨hc3, hf3⟩ := bcell hb3; have hz3 := hb3.size; (try simp at hz3); (try (have hy3_W_0 : W.heap.size < w3.heap.size := (by omega))); (try (have hy3_W_1 : W.heap.size + 1 < w3.heap.size := (by omega))); (try (have hy3_W_2 : W.heap.size + 2 < w3.heap.size := (by omega))); (try (have hy3_wr_0 : wr.heap.size < w3.heap.size := (by omega))); (try (have hy3_wr_1 : wr.heap.size + 1 < w3.heap.size := (by omega))); (try (have hy3_wr_2 : wr.heap.size + 2 < w3.heap.size := (by omega))); (try (have hy3_w1_0 : w1.heap.size < w3.heap.size := (by omega))); (try (have hy3_w1_1 : w1.heap.size + 1 < w3.heap.size := (by omega))); (try (have hy3_w1_2 : w1.heap.size + 2 < w3.heap.size := (by omega))); (try (have hy3_w2_0 : w2.heap.size < w3.heap.size := (by omega))); (try (have hy3_w2_1 : w2.heap.size + 1 < w3.heap.size := (by omega))); (try (have hy3_w2_2 : w2.heap.size + 2 < w3.heap.size := (by omega))); (try (have hyb3 : b < w3.heap.size := (by omega)))) | (go_at_call 52; refine (l15Turn_any _ _ _ _).mono ?_; rintro e w4 ⟨rfl, hb4⟩; obtain ⟨hc4, hf4⟩ := bcell hb4; have hz4 := hb4.size; (try simp at hz4); (try (have hy4_W_0 : W.heap.size < w4.heap.size := (by omega))); (try (have hy4_W_1 : W.heap.size + 1 < w4.heap.size := (by omega))); (try (have hy4_W_2 : W.heap.size + 2 < w4.heap.size := (by omega))); (try (have hy4_wr_0 : wr.heap.size < w4.heap.size := (by omega))); (try (have hy4_wr_1 : wr.heap.size + 1 < w4.heap.size := (by omega))); (try (have hy4_wr_2 : wr.heap.size + 2 < w4.heap.size := (by omega))); (try (have hy4_w1_0 : w1.heap.size < w4.heap.size := (by omega))); (try (have hy4_w1_1 : w1.heap.size + 1 < w4.heap.size := (by omega))); (try (have hy4_w1_2 : w1.heap.size + 2 < w4.heap.size := (by omega))); (try (have hy4_w2_0 : w2.heap.size < w4.heap.size := (by omega))); (try (have hy4_w2_1 : w2.heap.size + 1 < w4.heap.size := (by omega))); (try (have hy4_w2_2 : w2.heap.size + 2 < w4.heap.size := (by omega))); (try (have hy4_w3_0 : w3.heap.size < w4.heap.size := (by omega))); (try (have hy4_w3_1 : w3.heap.size + 1 < w4.heap.size := (by omega))); (try (have hy4_w3_2 : w3.heap.size + 2 < w4.heap.size := (by omega))); (try (have hyb4 : b < w4.heap.size := (by omega)))) | (go_at_call 13; refine (stripCountS_any _ _ _ _ _).mono ?_; rintro e w5 ⟨rfl, hb5⟩; obtain ⟨hc5, hf5⟩ := bcell hb5; have hz5 := hb5.size; (try simp at hz5); (try (have hy5_W_0 : W.heap.size < w5.heap.size := (by omega))); (try (have hy5_W_1 : W.heap.size + 1 < w5.heap.size := (by omega))); (try (have hy5_W_2 : W.heap.size + 2 < w5.heap.size := (by omega))); (try (have hy5_wr_0 : wr.heap.size < w5.heap.size := (by omega))); (try (have hy5_wr_1 : wr.heap.size + 1 < w5.heap.size := (by omega))); (try (have hy5_wr_2 : wr.heap.size + 2 < w5.heap.size := (by omega))); (try (have hy5_w1_0 : w1.heap.size < w5.heap.size := (by omega))); (try (have hy5_w1_1 : w1.heap.size + 1 < w5.heap.size := (by omega))); (try (have hy5_w1_2 : w1.heap.size + 2 < w5.heap.size := (by omega))); (try (have hy5_w2_0 : w2.heap.size < w5.heap.size := (by omega))); (try (have hy5_w2_1 : w2.heap.size + 1 < w5.heap.size := (by omega))); (try (have hy5_w2_2 : w2.heap.size + 2 < w5.heap.size := (by omega))); (try (have hy5_w3_0 : w3.heap.size < w5.heap.size := (by omega))); (try (have hy5_w3_1 : w3.heap.size + 1 < w5.heap.size := (by omega))); (try (have hy5_w3_2 : w3.heap.size + 2 < w5.heap.size := (by omega))); (try (have hy5_w4_0 : w4.heap.size < w5.heap.size := (by omega))); (try (have hy5_w4_1 : w4.heap.size + 1 < w5.heap.size := (by omega))); (try (have hy5_w4_2 : w4.heap.size + 2 < w5.heap.size := (by omega))); (try (have hyb5 : b < w5.heap.size := (by omega)))))
            go_roundw
            case rel =>
              refine ⟨k + 1, s + stripCount ⟨x2, x1, x3⟩ m * x1, by omega, by go_num, rfl, by omega, by omega, by (repeat (first | exact Below.refl _ _ | assumption | (refine Below.drew ?_) | (refine below_drewN ?_ _) | (refine Below.alloc ?_ (by first | exact Nat.le_refl _ | (simp; done) | (simp; omega) | omega) _) | (refine Below.setCell ?_ (by first | exact Nat.le_refl _ | (simp; done) | (simp; omega) | omega) _) | (refine Below.trans ?_ (Below.mono (by assumption) (by first | exact Nat.le_refl _ | (simp; done) | (simp; omega) | omega))))), ?_, ?_⟩
              · have := sum_map_take_succ (p := (fun n => pick n m)) (w := m) hX.out hsum.out
                simp only [HP.out] at this
                exact this
              · refine all_map_take_succ hX.out hall.out ?_
                simp only [HP.out]
                exact decide_eq_true (by show 0 ≤ stripCount ⟨x2, x1, x3⟩ m; omega)
            case measure => simp [intOf]; omega
      · go_wp2
        go_ret
        obtain rfl : k = n := by omega
        exact ⟨ret_i (by rw [← HX.out, hsum.out]; exact lengthBy_end hlen.out hall.out), by (repeat (first | exact Below.refl _ _ | assumption | (refine Below.drew ?_) | (refine below_drewN ?_ _) | (refine Below.alloc ?_ (by first | exact Nat.le_refl _ | (simp; done) | (simp; omega) | omega) _) | (refine Below.setCell ?_ (by first | exact Nat.le_refl _ | (simp; done) | (simp; omega) | omega) _) | (refine Below.trans ?_ (Below.mono (by assumption) (by first | exact Nat.le_refl _ | (simp; done) | (simp; omega) | omega)))))⟩
  · have hok' : needsOk xs = false := by simpa using hok
    have hX : -1 = leastLength xs m := by unfold leastLength; rw [if_neg hok]
    generalize leastLength xs m = R at *
    subst hX
    go_enter Try.func25, Try.ntmps25
    go_wp2_with (go_at_call 19; refine (needsOkS_any _ _ _ xs _ h (by omega)).mono ?_; rintro e w1 ⟨rfl, hb1⟩; obtain ⟨hc1, hf1⟩ := bcell hb1; have hz1 := hb1.size)
    go_ret
    exact ⟨rfl, by (repeat (first | exact Below.refl _ _ | assumption | (refine Below.drew ?_) | (refine below_drewN ?_ _) | (refine Below.alloc ?_ (by first | exact Nat.le_refl _ | (simp; done) | (simp; omega) | omega) _) | (refine Below.setCell ?_ (by first | exact Nat.le_refl _ | (simp; done) | (simp; omega) | omega) _) | (refine Below.trans ?_ (Below.mono (by assumption) (by first | exact Nat.le_refl _ | (simp; done) | (simp; omega) | omega)))))⟩

end Go.Proofs.Ytgobjhaodlmoaaa
