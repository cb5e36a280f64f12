/-
  Contracts of pressing: the fewest flips.
-/
import Derived.Test.YtjgjdchnjiaclaaPressB
set_option linter.unusedVariables false
namespace Go.Proofs.Ytjgjdchnjiaclaa
open Go.RowKit

theorem flipsI_any (A : Option Addr) (n c : Nat) (rows : List (List Bool)) (W : World) (h : RdSS W A n rows boolC) (hn : n ≤ 1048576) (hr : ∀ r ∈ rows, r.length ≤ 9223372036854775807) :
    Calls Try.prog 25 #[.slice A n c] W fun e w' => e = .returned (.int .i64 (fewestFlips rows)) ∧ Below W.heap.size W w' := by
  have HLEN := Lib.hid h.len
  by_cases hp : pressingOk rows = true
  · obtain ⟨⟨p1, p2⟩, p3, p4⟩ := pressing_parts hp
    rw [HLEN.out] at p1 p2
    have HP := Lib.hid hp
    have H4 := Lib.hid p4
    obtain ⟨m, hm⟩ : ∃ m, Hid (m = head0 rows) := ⟨_, rfl⟩
    have hm11 : m ≤ 11 := by rw [hm.out]; exact p3
    obtain ⟨b, off, A1, n1, c1, r, rfl, hbW, hr1, e1, hnc, hrl, hR⟩ := h.at_ (k := 0) (by omega) (Below.refl _ _)
    obtain rfl : n1 = m := by rw [← hrl, p4 _ _ hr1, hm.out]
    rw [Nat.add_zero] at e1
    have hpos : (0 : Int) < (n : Int) := by omega
    clear p3 p4 hR hr1 hrl
    go_enter Try.func25, Try.ntmps25
    go_wp2_with (go_at_call 16; refine (pressingOkI_any _ _ _ _ _ h hn hr).mono ?_; rintro e w' ⟨rfl, rfl⟩)
    go_loopw [3, 14] (fun s i wr => ∃ j t : Nat, j ≤ n1 ∧ i = .int .i64 (j : Int) ∧ s = .int .i64 (t : Int) ∧ t ≤ 12 * j ∧ Below W.heap.size W wr ∧ Hid (t = sumN (flipsAt rows) j)) (fun _ i _ => n1 - (intOf i).toNat)
    case atStart => exact ⟨0, 0, Nat.zero_le _, rfl, rfl, Nat.le_refl _, Below.refl _ _, rfl⟩
    case round =>
      obtain ⟨j, t, hj, rfl, rfl, ht, hB, hT⟩ := hrel
      by_cases hlj : j < n1
      · go_wp2
        go_loopw [5, 19] (fun s i wr => ∃ k u : Nat, k ≤ n ∧ i = .int .i64 (k : Int) ∧ s = .int .i64 (u : Int) ∧ u ≤ k ∧ Below W.heap.size W wr ∧ Hid (u = cnt (flipBit rows j) k)) (fun _ i _ => n - (intOf i).toNat)
        case atStart => exact ⟨0, 0, Nat.zero_le _, rfl, rfl, Nat.le_refl _, hB, rfl⟩
        case round =>
          obtain ⟨k, u, hk, rfl, rfl, hu, hB', hU⟩ := hrel
          by_cases hlk : k < n
          · obtain ⟨b1, off1, A2, n2, c2, r, ee, hbW', hr1, e2, hnc', hrl, hR⟩ := h.at_ hlk hB'
            obtain ⟨rfl, rfl⟩ : b = b1 ∧ off = off1 := by injection ee with ee; injection ee with x1 x2; exact ⟨x1, x2⟩
            obtain rfl : n2 = n1 := by rw [← hrl, H4.out _ _ hr1, hm.out]
            obtain ⟨g1, o1, x, rfl, hg1, hx, hcx⟩ := hR.at1 (v := Value.bool) hlj (Below.refl _ _)
            have hmod : ((k : Int) % 2 == 0) = (k % 2 == 0) := by rw [Bool.eq_iff_iff, beq_iff_eq, beq_iff_eq]; omega
            have HC := Lib.hid (show flipBit rows j k = (x == ((k : Int) % 2 == 0)) by unfold flipBit; rw [bit_eq hr1 hx, hmod])
            clear hmod
            clear hr1 hx hR ee hrl
            by_cases c1 : (x == ((k : Int) % 2 == 0)) = true
            · go_wp2
              go_roundw
              case rel => exact ⟨k + 1, u + 1, by omega, by go_num, by go_num, by omega, by (repeat (first | exact Below.refl _ _ | assumption | (refine Below.drew ?_) | (refine below_drewN ?_ _) | (refine Below.alloc ?_ (by first | exact Nat.le_refl _ | (simp; done) | (simp; omega) | omega) _) | (refine Below.setCell ?_ (by first | exact Nat.le_refl _ | (simp; done) | (simp; omega) | omega) _) | (refine Below.trans ?_ (Below.mono (by assumption) (by first | exact Nat.le_refl _ | (simp; done) | (simp; omega) | omega))))), by show _ = _; rw [cnt_yes (HC.out.trans c1), hU.out]⟩
              case measure => simp [intOf]; omega
            · have c2 : (x == ((k : Int) % 2 == 0)) = false := (Bool.not_eq_true _).mp c1
              go_wp2
              go_roundw
              case rel => exact ⟨k + 1, u, by omega, by go_num, rfl, by omega, by (repeat (first | exact Below.refl _ _ | assumption | (refine Below.drew ?_) | (refine below_drewN ?_ _) | (refine Below.alloc ?_ (by first | exact Nat.le_refl _ | (simp; done) | (simp; omega) | omega) _) | (refine Below.setCell ?_ (by first | exact Nat.le_refl _ | (simp; done) | (simp; omega) | omega) _) | (refine Below.trans ?_ (Below.mono (by assumption) (by first | exact Nat.le_refl _ | (simp; done) | (simp; omega) | omega))))), by show _ = _; rw [cnt_no (HC.out.trans c2), hU.out]⟩
              case measure => simp [intOf]; omega
          · obtain rfl : k = n := by omega
            go_wp2
            go_roundw
            case rel =>
              refine ⟨j + 1, t + min u (k - u), by omega, by go_num, by go_num, by omega, hB', ?_⟩
              show _ = _
              rw [sumN_succ, ← hT.out]
              unfold flipsAt
              rw [HLEN.out, ← hU.out]
            case measure => simp [intOf]; omega
      · go_wp2
        go_ret
        obtain rfl : j = n1 := by omega
        exact ⟨ret_i (flips_end HP.out (by rw [← hm.out]; exact hT.out)), by (repeat (first | exact Below.refl _ _ | assumption | (refine Below.drew ?_) | (refine below_drewN ?_ _) | (refine Below.alloc ?_ (by first | exact Nat.le_refl _ | (simp; done) | (simp; omega) | omega) _) | (refine Below.setCell ?_ (by first | exact Nat.le_refl _ | (simp; done) | (simp; omega) | omega) _) | (refine Below.trans ?_ (Below.mono (by assumption) (by first | exact Nat.le_refl _ | (simp; done) | (simp; omega) | omega)))))⟩
  · have hp' : pressingOk rows = false := by simpa using hp
    go_enter Try.func25, Try.ntmps25
    go_wp2_with (go_at_call 16; refine (pressingOkI_any _ _ _ _ _ h hn hr).mono ?_; rintro e w' ⟨rfl, rfl⟩)
    go_ret
    exact ⟨ret_i (flips_bad hp'), by (repeat (first | exact Below.refl _ _ | assumption | (refine Below.drew ?_) | (refine below_drewN ?_ _) | (refine Below.alloc ?_ (by first | exact Nat.le_refl _ | (simp; done) | (simp; omega) | omega) _) | (refine Below.setCell ?_ (by first | exact Nat.le_refl _ | (simp; done) | (simp; omega) | omega) _) | (refine Below.trans ?_ (Below.mono (by assumption) (by first | exact Nat.le_refl _ | (simp; done) | (simp; omega) | omega)))))⟩

theorem flipsS_any (A : Option Addr) (n c : Nat) (rows : List (List Bool)) (W : World) (h : RdSS W A n rows boolC) (hn : n ≤ 1048576) (hr : ∀ r ∈ rows, r.length ≤ 9223372036854775807) :
    Calls Try.prog 24 #[.slice A n c] W fun e w' => e = .returned (.int .i64 (fewestFlips rows)) ∧ Below W.heap.size W w' := by
  have HLEN := Lib.hid h.len
  by_cases hp : pressingOk rows = true
  · obtain ⟨⟨p1, p2⟩, p3, p4⟩ := pressing_parts hp
    rw [HLEN.out] at p1 p2
    have HP := Lib.hid hp
    have H4 := Lib.hid p4
    obtain ⟨m, hm⟩ : ∃ m, Hid (m = head0 rows) := ⟨_, rfl⟩
    have hm11 : m ≤ 11 := by rw [hm.out]; exact p3
    obtain ⟨b, off, A1, n1, c1, r, rfl, hbW, hr1, e1, hnc, hrl, hR⟩ := h.at_ (k := 0) (by omega) (Below.refl _ _)
    obtain rfl : n1 = m := by rw [← hrl, p4 _ _ hr1, hm.out]
    rw [Nat.add_zero] at e1
    have hpos : (0 : Int) < (n : Int) := by omega
    clear p3 p4 hR hr1 hrl
    go_enter Try.func24, Try.ntmps24
    go_wp2_with (go_at_call 14; refine (pressingOkS_any _ _ _ _ _ h hn hr ).mono ?_; rintro e w1 ⟨rfl, hb1⟩; obtain ⟨hc1, hf1⟩ := bcell hb1; have hz1 := hb1.size; (try simp at hz1); (try (have hy1_W_0 : W.heap.size < w1.heap.size := (by omega))); (try (have hy1_W_1 : W.heap.size + 1 < w1.heap.size := (by omega))); (try (have hy1_W_2 : W.heap.size + 2 < w1.heap.size := (by omega))); (try (have hy1_wr_0 : wr.heap.size < w1.heap.size := (by omega))); (try (have hy1_wr_1 : wr.heap.size + 1 < w1.heap.size := (by omega))); (try (have hy1_wr_2 : wr.heap.size + 2 < w1.heap.size := (by omega))); (try (have hyb1 : b < w1.heap.size := (by omega))))
    go_loopw [3, 4] (fun s i wr => ∃ j t : Nat, j ≤ n1 ∧ i = .int .i64 (j : Int) ∧ s = .int .i64 (t : Int) ∧ t ≤ 12 * j ∧ Below W.heap.size W wr ∧ Hid (t = sumN (flipsAt rows) j)) (fun _ i _ => n1 - (intOf i).toNat)
    case atStart => exact ⟨0, 0, Nat.zero_le _, rfl, rfl, Nat.le_refl _, by (repeat (first | exact Below.refl _ _ | assumption | (refine Below.drew ?_) | (refine below_drewN ?_ _) | (refine Below.alloc ?_ (by first | exact Nat.le_refl _ | (simp; done) | (simp; omega) | omega) _) | (refine Below.setCell ?_ (by first | exact Nat.le_refl _ | (simp; done) | (simp; omega) | omega) _) | (refine Below.trans ?_ (Below.mono (by assumption) (by first | exact Nat.le_refl _ | (simp; done) | (simp; omega) | omega))))), rfl⟩
    case round =>
      obtain ⟨j, t, hj, rfl, rfl, ht, hB, hT⟩ := hrel
      obtain ⟨bz, offz, Az, nz, cz, rz, eez, hbWz, hrz, ez, hncz, hrlz, hRz⟩ := h.at_ (k := 0) (by omega) hB
      obtain ⟨rfl, rfl⟩ : b = bz ∧ off = offz := by injection eez with eez; injection eez with x1 x2; exact ⟨x1, x2⟩
      obtain rfl : nz = n1 := by rw [← hrlz, H4.out _ _ hrz, hm.out]
      rw [Nat.add_zero] at ez
      clear hRz hrz hrlz eez
      by_cases hlj : j < nz
      · go_wp2
        go_loopw [5, 6] (fun s i wr => ∃ k u : Nat, k ≤ n ∧ i = .int .i64 (k : Int) ∧ s = .int .i64 (u : Int) ∧ u ≤ k ∧ Below W.heap.size W wr ∧ Hid (u = cnt (fun i => !flipBit rows j i) k)) (fun _ i _ => n - (intOf i).toNat)
        case atStart => exact ⟨0, 0, Nat.zero_le _, rfl, rfl, Nat.le_refl _, hB, rfl⟩
        case round =>
          obtain ⟨k, u, hk, rfl, rfl, hu, hB', hU⟩ := hrel
          by_cases hlk : k < n
          · obtain ⟨b1, off1, A2, n2, c2, r, ee, hbW', hr1, e2, hnc', hrl, hR⟩ := h.at_ hlk hB'
            obtain ⟨rfl, rfl⟩ : b = b1 ∧ off = off1 := by injection ee with ee; injection ee with x1 x2; exact ⟨x1, x2⟩
            obtain rfl : n2 = nz := by rw [← hrl, H4.out _ _ hr1, hm.out]
            obtain ⟨g1, o1, x, rfl, hg1, hx, hcx⟩ := hR.at1 (v := Value.bool) hlj (Below.refl _ _)
            have hmod : ((k : Int) % 2 == 0) = (k % 2 == 0) := by rw [Bool.eq_iff_iff, beq_iff_eq, beq_iff_eq]; omega
            have HC := Lib.hid (show (!flipBit rows j k) = (!(x == ((k : Int) % 2 == 0))) by unfold flipBit; rw [bit_eq hr1 hx, hmod])
            clear hmod
            clear hr1 hx hR ee hrl
            by_cases c1 : (!(x == ((k : Int) % 2 == 0))) = true
            · go_wp2
              go_roundw
              case rel => exact ⟨k + 1, u + 1, by omega, by go_num, by go_num, by omega, by (repeat (first | exact Below.refl _ _ | assumption | (refine Below.drew ?_) | (refine below_drewN ?_ _) | (refine Below.alloc ?_ (by first | exact Nat.le_refl _ | (simp; done) | (simp; omega) | omega) _) | (refine Below.setCell ?_ (by first | exact Nat.le_refl _ | (simp; done) | (simp; omega) | omega) _) | (refine Below.trans ?_ (Below.mono (by assumption) (by first | exact Nat.le_refl _ | (simp; done) | (simp; omega) | omega))))), by show _ = _; rw [cnt_yes (HC.out.trans c1), hU.out]⟩
              case measure => simp [intOf]; omega
            · have c2 : (!(x == ((k : Int) % 2 == 0))) = false := (Bool.not_eq_true _).mp c1
              go_wp2
              go_roundw
              case rel => exact ⟨k + 1, u, by omega, by go_num, rfl, by omega, by (repeat (first | exact Below.refl _ _ | assumption | (refine Below.drew ?_) | (refine below_drewN ?_ _) | (refine Below.alloc ?_ (by first | exact Nat.le_refl _ | (simp; done) | (simp; omega) | omega) _) | (refine Below.setCell ?_ (by first | exact Nat.le_refl _ | (simp; done) | (simp; omega) | omega) _) | (refine Below.trans ?_ (Below.mono (by assumption) (by first | exact Nat.le_refl _ | (simp; done) | (simp; omega) | omega))))), by show _ = _; rw [cnt_no (HC.out.trans c2), hU.out]⟩
              case measure => simp [intOf]; omega
          · obtain rfl : k = n := by omega
            go_wp2
            go_roundw
            case rel =>
              refine ⟨j + 1, t + min u (k - u), by omega, by go_num, by go_num, by omega, hB', ?_⟩
              show _ = _
              rw [sumN_succ, ← hT.out]
              rw [flips_not]
              rw [HLEN.out, ← hU.out]
            case measure => simp [intOf]; omega
      · go_wp2
        go_ret
        obtain rfl : j = nz := by omega
        exact ⟨ret_i (flips_end HP.out (by rw [← hm.out]; exact hT.out)), by (repeat (first | exact Below.refl _ _ | assumption | (refine Below.drew ?_) | (refine below_drewN ?_ _) | (refine Below.alloc ?_ (by first | exact Nat.le_refl _ | (simp; done) | (simp; omega) | omega) _) | (refine Below.setCell ?_ (by first | exact Nat.le_refl _ | (simp; done) | (simp; omega) | omega) _) | (refine Below.trans ?_ (Below.mono (by assumption) (by first | exact Nat.le_refl _ | (simp; done) | (simp; omega) | omega)))))⟩
  · have hp' : pressingOk rows = false := by simpa using hp
    go_enter Try.func24, Try.ntmps24
    go_wp2_with (go_at_call 14; refine (pressingOkS_any _ _ _ _ _ h hn hr ).mono ?_; rintro e w1 ⟨rfl, hb1⟩; obtain ⟨hc1, hf1⟩ := bcell hb1; have hz1 := hb1.size; (try simp at hz1); (try (have hy1_W_0 : W.heap.size < w1.heap.size := (by omega))); (try (have hy1_W_1 : W.heap.size + 1 < w1.heap.size := (by omega))); (try (have hy1_W_2 : W.heap.size + 2 < w1.heap.size := (by omega))); (try (have hy1_wr_0 : wr.heap.size < w1.heap.size := (by omega))); (try (have hy1_wr_1 : wr.heap.size + 1 < w1.heap.size := (by omega))); (try (have hy1_wr_2 : wr.heap.size + 2 < w1.heap.size := (by omega))); (try (have hyb1 : b < w1.heap.size := (by omega))))
    go_ret
    exact ⟨ret_i (flips_bad hp'), by (repeat (first | exact Below.refl _ _ | assumption | (refine Below.drew ?_) | (refine below_drewN ?_ _) | (refine Below.alloc ?_ (by first | exact Nat.le_refl _ | (simp; done) | (simp; omega) | omega) _) | (refine Below.setCell ?_ (by first | exact Nat.le_refl _ | (simp; done) | (simp; omega) | omega) _) | (refine Below.trans ?_ (Below.mono (by assumption) (by first | exact Nat.le_refl _ | (simp; done) | (simp; omega) | omega)))))⟩

end Go.Proofs.Ytjgjdchnjiaclaa
