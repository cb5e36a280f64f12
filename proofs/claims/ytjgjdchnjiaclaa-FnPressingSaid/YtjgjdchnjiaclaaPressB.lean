/-
  Contracts of pressing: the clashes.
-/
import Derived.Test.YtjgjdchnjiaclaaPressA
set_option linter.unusedVariables false
namespace Go.Proofs.Ytjgjdchnjiaclaa
open Go.RowKit

theorem clashesI_any (A : Option Addr) (n c : Nat) (rows : List (List Bool)) (W : World) (h : RdSS W A n rows boolC) (hn : n ≤ 1048576) (hr : ∀ r ∈ rows, r.length ≤ 9223372036854775807) :
    Calls Try.prog 23 #[.slice A n c] W fun e w' => e = .returned (.int .i64 (clashesOf rows)) ∧ Below W.heap.size W w' := by
  have HLEN := Lib.hid h.len
  by_cases hp : pressingOk rows = true
  · obtain ⟨⟨p1, p2⟩, p3, p4⟩ := pressing_parts hp
    rw [HLEN.out] at p1 p2
    have HP := Lib.hid hp
    have H4 := Lib.hid p4
    obtain ⟨m, hm⟩ : ∃ m, Hid (m = head0 rows) := ⟨_, rfl⟩
    have hm11 : m ≤ 11 := by rw [hm.out]; exact p3
    clear p3 p4
    go_enter Try.func23, Try.ntmps23
    go_wp2_with (go_at_call 16; refine (pressingOkI_any _ _ _ _ _ h hn hr).mono ?_; rintro e w' ⟨rfl, rfl⟩)
    go_loopw [3, 4] (fun s i wr => ∃ k t : Nat, k + 1 ≤ n ∧ i = .int .i64 ((k : Int) + 1) ∧ s = .int .i64 (t : Int) ∧ t ≤ 11 * k ∧ Below W.heap.size W wr ∧ Hid (t = sumN (fun k => cnt (clashBit rows k) (head0 rows)) k)) (fun _ i _ => n - (intOf i).toNat)
    case atStart => exact ⟨0, 0, p1, rfl, rfl, Nat.le_refl _, Below.refl _ _, rfl⟩
    case round =>
      obtain ⟨k, t, hk, rfl, rfl, ht, hB, hT⟩ := hrel
      by_cases hlt : k + 1 < n
      · obtain ⟨b, off, A1, n1, c1, r, rfl, hbW, hr1, e1, hnc, hrl, hR⟩ := h.at_ hlt hB
        obtain rfl : n1 = m := by rw [← hrl, H4.out _ _ hr1, hm.out]
        clear hR hr1 hrl
        go_wp2
        go_loopw [3, 20] (fun s i wr => ∃ j u : Nat, j ≤ n1 ∧ i = .int .i64 (j : Int) ∧ s = .int .i64 (u : Int) ∧ u ≤ t + j ∧ Below W.heap.size W wr ∧ Hid (u = t + cnt (clashBit rows k) j)) (fun _ i _ => n1 - (intOf i).toNat)
        case atStart => exact ⟨0, t, Nat.zero_le _, rfl, rfl, Nat.le_refl _, hB, rfl⟩
        case round =>
          obtain ⟨j, u, hj, rfl, rfl, hu, hB', hU⟩ := hrel
          by_cases hlj : j < n1
          · obtain ⟨b1, off1, A1, n2, c1, r, ee, hbW, hr1, e1, hnc, hrl, hR⟩ := h.at_ hlt hB'
            obtain ⟨rfl, rfl⟩ : b = b1 ∧ off = off1 := by injection ee with ee; injection ee with x1 x2; exact ⟨x1, x2⟩
            obtain rfl : n2 = n1 := by rw [← hrl, H4.out _ _ hr1, hm.out]
            obtain ⟨b0, off0, A0, n0, c0, r0, ee0, _, hr0, e0, hnc0, hrl0, hR0⟩ := h.at_ (k := k) (by omega) hB'
            obtain ⟨rfl, rfl⟩ : b = b0 ∧ off = off0 := by injection ee0 with ee0; injection ee0 with x1 x2; exact ⟨x1, x2⟩
            obtain rfl : n0 = n2 := by rw [← hrl0, H4.out _ _ hr0, hm.out]
            obtain ⟨g1, o1, x, rfl, hg1, hx, hcx⟩ := hR.at1 (v := Value.bool) hlj (Below.refl _ _)
            obtain ⟨g0, o0, y, rfl, hg0, hy, hcy⟩ := hR0.at1 (v := Value.bool) hlj (Below.refl _ _)
            have HC := Lib.hid (show clashBit rows k j = (x == y) by unfold clashBit; rw [bit_eq hr1 hx, bit_eq hr0 hy])
            clear hr1 hr0 hx hy hR hR0 ee ee0 hrl hrl0
            by_cases c1 : (x == y) = true
            · go_wp2
              go_quiet (fail)
              go_wp2
              go_roundw
              case rel => exact ⟨j + 1, u + 1, by omega, by go_num, by go_num, by omega, by (repeat (first | exact Below.refl _ _ | assumption | (refine Below.drew ?_) | (refine below_drewN ?_ _) | (refine Below.alloc ?_ (by first | exact Nat.le_refl _ | (simp; done) | (simp; omega) | omega) _) | (refine Below.setCell ?_ (by first | exact Nat.le_refl _ | (simp; done) | (simp; omega) | omega) _) | (refine Below.trans ?_ (Below.mono (by assumption) (by first | exact Nat.le_refl _ | (simp; done) | (simp; omega) | omega))))), by show _ = _; rw [cnt_yes (HC.out.trans c1), hU.out]; omega⟩
              case measure => simp [intOf]; omega
            · have c2 : (x == y) = false := by simpa using c1
              go_wp2
              go_quiet (fail)
              go_wp2
              go_roundw
              case rel => exact ⟨j + 1, u, by omega, by go_num, rfl, by omega, by (repeat (first | exact Below.refl _ _ | assumption | (refine Below.drew ?_) | (refine below_drewN ?_ _) | (refine Below.alloc ?_ (by first | exact Nat.le_refl _ | (simp; done) | (simp; omega) | omega) _) | (refine Below.setCell ?_ (by first | exact Nat.le_refl _ | (simp; done) | (simp; omega) | omega) _) | (refine Below.trans ?_ (Below.mono (by assumption) (by first | exact Nat.le_refl _ | (simp; done) | (simp; omega) | omega))))), by show _ = _; rw [cnt_no (HC.out.trans c2), hU.out]⟩
              case measure => simp [intOf]; omega
          · go_wp2
            go_roundw
            case rel =>
              obtain rfl : j = n1 := by omega
              exact ⟨k + 1, u, by omega, by go_num, rfl, by omega, hB', by show _ = _; rw [sumN_succ, ← hT.out, hU.out, ← hm.out]⟩
            case measure => simp [intOf]; omega
      · go_wp2
        go_ret
        exact ⟨ret_i (clash_end HP.out HLEN.out (by omega) hT.out), by (repeat (first | exact Below.refl _ _ | assumption | (refine Below.drew ?_) | (refine below_drewN ?_ _) | (refine Below.alloc ?_ (by first | exact Nat.le_refl _ | (simp; done) | (simp; omega) | omega) _) | (refine Below.setCell ?_ (by first | exact Nat.le_refl _ | (simp; done) | (simp; omega) | omega) _) | (refine Below.trans ?_ (Below.mono (by assumption) (by first | exact Nat.le_refl _ | (simp; done) | (simp; omega) | omega)))))⟩
  · have hp' : pressingOk rows = false := by simpa using hp
    go_enter Try.func23, Try.ntmps23
    go_wp2_with (go_at_call 16; refine (pressingOkI_any _ _ _ _ _ h hn hr).mono ?_; rintro e w' ⟨rfl, rfl⟩)
    go_ret
    exact ⟨ret_i (clash_bad hp'), by (repeat (first | exact Below.refl _ _ | assumption | (refine Below.drew ?_) | (refine below_drewN ?_ _) | (refine Below.alloc ?_ (by first | exact Nat.le_refl _ | (simp; done) | (simp; omega) | omega) _) | (refine Below.setCell ?_ (by first | exact Nat.le_refl _ | (simp; done) | (simp; omega) | omega) _) | (refine Below.trans ?_ (Below.mono (by assumption) (by first | exact Nat.le_refl _ | (simp; done) | (simp; omega) | omega)))))⟩
theorem clashesS_any (A : Option Addr) (n c : Nat) (rows : List (List Bool)) (W : World) (h : RdSS W A n rows boolC) (hn : n ≤ 1048576) (hr : ∀ r ∈ rows, r.length ≤ 9223372036854775807) :
    Calls Try.prog 22 #[.slice A n c] W fun e w' => e = .returned (.int .i64 (clashesOf rows)) ∧ Below W.heap.size W w' := by
  have HLEN := Lib.hid h.len
  by_cases hp : pressingOk rows = true
  · obtain ⟨⟨p1, p2⟩, p3, p4⟩ := pressing_parts hp
    rw [HLEN.out] at p1 p2
    have HP := Lib.hid hp
    have H4 := Lib.hid p4
    obtain ⟨m, hm⟩ : ∃ m, Hid (m = head0 rows) := ⟨_, rfl⟩
    have hm11 : m ≤ 11 := by rw [hm.out]; exact p3
    clear p3 p4
    go_enter Try.func22, Try.ntmps22
    go_wp2_with (go_at_call 14; refine (pressingOkS_any _ _ _ _ _ h hn hr ).mono ?_; rintro e w1 ⟨rfl, hb1⟩; obtain ⟨hc1, hf1⟩ := bcell hb1; have hz1 := hb1.size; (try simp at hz1); (try (have hy1_W_0 : W.heap.size < w1.heap.size := (by omega))); (try (have hy1_W_1 : W.heap.size + 1 < w1.heap.size := (by omega))); (try (have hy1_W_2 : W.heap.size + 2 < w1.heap.size := (by omega))); (try (have hy1_wr_0 : wr.heap.size < w1.heap.size := (by omega))); (try (have hy1_wr_1 : wr.heap.size + 1 < w1.heap.size := (by omega))); (try (have hy1_wr_2 : wr.heap.size + 2 < w1.heap.size := (by omega))); (try (have hyb1 : b < w1.heap.size := (by omega))))
    go_loopw [3, 4] (fun s i wr => ∃ k t : Nat, k + 1 ≤ n ∧ i = .int .i64 ((k : Int) + 1) ∧ s = .int .i64 (t : Int) ∧ t ≤ 11 * k ∧ Below W.heap.size W wr ∧ Hid (t = sumN (fun k => cnt (clashBit rows k) (head0 rows)) k)) (fun _ i _ => n - (intOf i).toNat)
    case atStart => exact ⟨0, 0, p1, rfl, rfl, Nat.le_refl _, by (repeat (first | exact Below.refl _ _ | assumption | (refine Below.drew ?_) | (refine below_drewN ?_ _) | (refine Below.alloc ?_ (by first | exact Nat.le_refl _ | (simp; done) | (simp; omega) | omega) _) | (refine Below.setCell ?_ (by first | exact Nat.le_refl _ | (simp; done) | (simp; omega) | omega) _) | (refine Below.trans ?_ (Below.mono (by assumption) (by first | exact Nat.le_refl _ | (simp; done) | (simp; omega) | omega))))), rfl⟩
    case round =>
      obtain ⟨k, t, hk, rfl, rfl, ht, hB, hT⟩ := hrel
      by_cases hlt : k + 1 < n
      · obtain ⟨b, off, A1, n1, c1, r, rfl, hbW, hr1, e1, hnc, hrl, hR⟩ := h.at_ hlt hB
        obtain rfl : n1 = m := by rw [← hrl, H4.out _ _ hr1, hm.out]
        clear hR hr1 hrl
        go_wp2
        go_loopw [3, 5] (fun s i wr => ∃ j u : Nat, j ≤ n1 ∧ i = .int .i64 (j : Int) ∧ s = .int .i64 (u : Int) ∧ u ≤ t + j ∧ Below W.heap.size W wr ∧ Hid (u = t + cnt (clashBit rows k) j)) (fun _ i _ => n1 - (intOf i).toNat)
        case atStart => exact ⟨0, t, Nat.zero_le _, rfl, rfl, Nat.le_refl _, hB, rfl⟩
        case round =>
          obtain ⟨j, u, hj, rfl, rfl, hu, hB', hU⟩ := hrel
          obtain ⟨b1, off1, A1, n2, c1, r, ee, hbW, hr1, e1, hnc, hrl, hR⟩ := h.at_ hlt hB'
          obtain ⟨rfl, rfl⟩ : b = b1 ∧ off = off1 := by injection ee with ee; injection ee with x1 x2; exact ⟨x1, x2⟩
          obtain rfl : n2 = n1 := by rw [← hrl, H4.out _ _ hr1, hm.out]
          by_cases hlj : j < n2
          · obtain ⟨b0, off0, A0, n0, c0, r0, ee0, _, hr0, e0, hnc0, hrl0, hR0⟩ := h.at_ (k := k) (by omega) hB'
            obtain ⟨rfl, rfl⟩ : b = b0 ∧ off = off0 := by injection ee0 with ee0; injection ee0 with x1 x2; exact ⟨x1, x2⟩
            obtain rfl : n0 = n2 := by rw [← hrl0, H4.out _ _ hr0, hm.out]
            obtain ⟨g1, o1, x, rfl, hg1, hx, hcx⟩ := hR.at1 (v := Value.bool) hlj (Below.refl _ _)
            obtain ⟨g0, o0, y, rfl, hg0, hy, hcy⟩ := hR0.at1 (v := Value.bool) hlj (Below.refl _ _)
            have HC := Lib.hid (show clashBit rows k j = (x == y) by unfold clashBit; rw [bit_eq hr1 hx, bit_eq hr0 hy])
            clear hr1 hr0 hx hy hR hR0 ee ee0 hrl hrl0
            by_cases c1 : (x == y) = true
            · go_wp2
              go_quiet (fail)
              go_wp2
              go_roundw
              case rel => exact ⟨j + 1, u + 1, by omega, by go_num, by go_num, by omega, by (repeat (first | exact Below.refl _ _ | assumption | (refine Below.drew ?_) | (refine below_drewN ?_ _) | (refine Below.alloc ?_ (by first | exact Nat.le_refl _ | (simp; done) | (simp; omega) | omega) _) | (refine Below.setCell ?_ (by first | exact Nat.le_refl _ | (simp; done) | (simp; omega) | omega) _) | (refine Below.trans ?_ (Below.mono (by assumption) (by first | exact Nat.le_refl _ | (simp; done) | (simp; omega) | omega))))), by show _ = _; rw [cnt_yes (HC.out.trans c1), hU.out]; omega⟩
              case measure => simp [intOf]; omega
            · have c2 : (x == y) = false := by simpa using c1
              go_wp2
              go_quiet (fail)
              go_wp2
              go_roundw
              case rel => exact ⟨j + 1, u, by omega, by go_num, rfl, by omega, by (repeat (first | exact Below.refl _ _ | assumption | (refine Below.drew ?_) | (refine below_drewN ?_ _) | (refine Below.alloc ?_ (by first | exact Nat.le_refl _ | (simp; done) | (simp; omega) | omega) _) | (refine Below.setCell ?_ (by first | exact Nat.le_refl _ | (simp; done) | (simp; omega) | omega) _) | (refine Below.trans ?_ (Below.mono (by assumption) (by first | exact Nat.le_refl _ | (simp; done) | (simp; omega) | omega))))), by show _ = _; rw [cnt_no (HC.out.trans c2), hU.out]⟩
              case measure => simp [intOf]; omega
          · go_wp2
            go_roundw
            case rel =>
              obtain rfl : j = n2 := by omega
              exact ⟨k + 1, u, by omega, by go_num, rfl, by omega, hB', by show _ = _; rw [sumN_succ, ← hT.out, hU.out, ← hm.out]⟩
            case measure => simp [intOf]; omega
      · go_wp2
        go_ret
        exact ⟨ret_i (clash_end HP.out HLEN.out (by omega) hT.out), by (repeat (first | exact Below.refl _ _ | assumption | (refine Below.drew ?_) | (refine below_drewN ?_ _) | (refine Below.alloc ?_ (by first | exact Nat.le_refl _ | (simp; done) | (simp; omega) | omega) _) | (refine Below.setCell ?_ (by first | exact Nat.le_refl _ | (simp; done) | (simp; omega) | omega) _) | (refine Below.trans ?_ (Below.mono (by assumption) (by first | exact Nat.le_refl _ | (simp; done) | (simp; omega) | omega)))))⟩
  · have hp' : pressingOk rows = false := by simpa using hp
    go_enter Try.func22, Try.ntmps22
    go_wp2_with (go_at_call 14; refine (pressingOkS_any _ _ _ _ _ h hn hr ).mono ?_; rintro e w1 ⟨rfl, hb1⟩; obtain ⟨hc1, hf1⟩ := bcell hb1; have hz1 := hb1.size; (try simp at hz1); (try (have hy1_W_0 : W.heap.size < w1.heap.size := (by omega))); (try (have hy1_W_1 : W.heap.size + 1 < w1.heap.size := (by omega))); (try (have hy1_W_2 : W.heap.size + 2 < w1.heap.size := (by omega))); (try (have hy1_wr_0 : wr.heap.size < w1.heap.size := (by omega))); (try (have hy1_wr_1 : wr.heap.size + 1 < w1.heap.size := (by omega))); (try (have hy1_wr_2 : wr.heap.size + 2 < w1.heap.size := (by omega))); (try (have hyb1 : b < w1.heap.size := (by omega))))
    go_ret
    exact ⟨ret_i (clash_bad hp'), by (repeat (first | exact Below.refl _ _ | assumption | (refine Below.drew ?_) | (refine below_drewN ?_ _) | (refine Below.alloc ?_ (by first | exact Nat.le_refl _ | (simp; done) | (simp; omega) | omega) _) | (refine Below.setCell ?_ (by first | exact Nat.le_refl _ | (simp; done) | (simp; omega) | omega) _) | (refine Below.trans ?_ (Below.mono (by assumption) (by first | exact Nat.le_refl _ | (simp; done) | (simp; omega) | omega)))))⟩

end Go.Proofs.Ytjgjdchnjiaclaa
