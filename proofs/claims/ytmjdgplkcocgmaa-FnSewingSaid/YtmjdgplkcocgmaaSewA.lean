/-
  Contracts over joins: what is ready; the first order of sewing.
-/
import Derived.Test.YtmjdgplkcocgmaaTreeA
set_option linter.unusedVariables false
namespace Go.Proofs.Ytmjdgplkcocgmaa
open Go.RowKit

/-- A place of x in xs, or something less than 0. -/
def IdxOut (xs : List Int) (x : Int) (W : World) (e : Ending) (w' : World) : Prop := ∃ r : Int, e = .returned (.int .i64 r) ∧ (xs.contains x = true → 0 ≤ r) ∧ (xs.contains x = false → r < 0) ∧ W = w'
theorem has_take {xs : List Int} {k : Nat} {x y : Int} (hx : xs[k]? = some x) (h : (xs.take k).contains y = false) (hne : x ≠ y) : (xs.take (k + 1)).contains y = false := by
  rw [← Bool.not_eq_true, List.contains_iff_mem] at *
  rw [List.take_add_one, hx, List.mem_append]
  rintro (h1 | h1)
  · exact h h1
  · simp at h1; exact hne h1.symm
theorem indexOf_any (A : Option Addr) (n c : Nat) (xs : List Int) (y : Int) (W : World) (h : Rd W A n 1 xs intC) (hn : n ≤ 1048576) :
    Calls Try.prog 95 #[.slice A n c, .int .i64 y] W (IdxOut xs y W) := by
  have HLEN := Lib.hid h.len
  go_enter Try.func95, Try.ntmps95
  go_wp2
  go_loop [9] (fun i => ∃ k : Nat, k ≤ n ∧ i = .int .i64 k ∧ Hid ((xs.take k).contains y = false)) (fun i => n - (intOf i).toNat)
  case atStart => exact ⟨0, Nat.zero_le _, rfl, rfl⟩
  case round =>
    obtain ⟨k, hk, rfl, hno⟩ := hrel
    by_cases hlt : k < n
    · obtain ⟨b, off, x, rfl, hbW, hx, hc⟩ := h.int hlt (Below.refl _ _)
      have HX := Lib.hid hx
      clear hx
      by_cases e : x = y
      · subst e
        have HM := Lib.hid (show xs.contains x = true by rw [List.contains_iff_mem]; exact List.mem_of_getElem? HX.out)
        go_wp2
        go_ret
        exact ⟨_, rfl, fun _ => Int.natCast_nonneg _, (fun hh => absurd (HM.out.symm.trans hh) (by decide)), rfl⟩
      · have e' : (x == y) = false := by rw [beq_eq_false_iff_ne]; exact e
        have HN := Lib.hid (has_take HX.out hno.out e)
        clear e
        go_wp2
        go_round
        case rel => exact ⟨k + 1, by omega, by go_num, HN.out⟩
        case measure => simp [intOf]; omega
    · go_wp2
      go_ret
      obtain rfl : k = n := by omega
      have hf : xs.contains y = false := by have := hno.out; rwa [List.take_of_length_le (Nat.le_of_eq HLEN.out)] at this
      exact ⟨_, rfl, (fun hh => absurd (hf.symm.trans hh) (by decide)), fun _ => by decide, rfl⟩

theorem readyU_small {m : Int} {xs : List Int} {u : Int} (h : u < m) : readyU m xs u = true := by
  unfold readyU
  rw [decide_eq_true h]; rfl
theorem readyU_big {m : Int} {xs : List Int} {u : Int} (h : ¬ u < m) : readyU m xs u = xs.contains (u - m) := by
  unfold readyU
  rw [decide_eq_false h, Bool.false_or]
theorem ready_a {m : Int} {xs : List Int} {j : Join} (h : readyU m xs j.A = false) : false = ready m xs j := by
  unfold ready
  rw [h]; rfl
theorem ready_b {m : Int} {xs : List Int} {j : Join} (h : readyU m xs j.B = false) : false = ready m xs j := by
  unfold ready
  rw [h, Bool.and_false]
theorem ready_ab {m : Int} {xs : List Int} {j : Join} (h : readyU m xs j.A = true) (h2 : readyU m xs j.B = true) : true = ready m xs j := by
  unfold ready
  rw [h, h2]; rfl

theorem ready_any (up : Bool) (a b2 m : Int) (A : Option Addr) (n c : Nat) (xs : List Int) (W : World) (h : Rd W A n 1 xs intC) (hn : n ≤ 1048576) (ha : 0 ≤ a) (ha2 : a ≤ 1000) (hb : 0 ≤ b2) (hb2 : b2 ≤ 1000) (hm : 0 ≤ m) (hm2 : m ≤ 12) :
    Calls Try.prog 96 #[.agg #[.bool up, .int .i64 a, .int .i64 b2], .int .i64 m, .slice A n c] W fun e w' => e = .returned (.bool (ready m xs ⟨up, a, b2⟩)) ∧ Below W.heap.size W w' := by
  go_enter Try.func96, Try.ntmps96
  go_wp2
  have h2 : Rd ((W.alloc (.cells #[.bool up, .int .i64 a, .int .i64 b2] 76)).alloc (.cells #[.int .i64 a, .int .i64 b2] 3)) A n 1 xs intC := h.below (by (repeat (first | exact Below.refl _ _ | assumption | (refine Below.drew ?_) | (refine below_drewN ?_ _) | (refine Below.alloc ?_ (by first | exact Nat.le_refl _ | (simp; done) | (simp; omega) | omega) _) | (refine Below.setCell ?_ (by first | exact Nat.le_refl _ | (simp; done) | (simp; omega) | omega) _) | (refine Below.trans ?_ (Below.mono (by assumption) (by first | exact Nat.le_refl _ | (simp; done) | (simp; omega) | omega))))))
  go_loop [15] (fun i => ∃ k : Nat, k ≤ 2 ∧ i = .int .i64 k ∧ Hid ((1 ≤ k → readyU m xs a = true) ∧ (2 ≤ k → readyU m xs b2 = true))) (fun i => 2 - (intOf i).toNat)
  case atStart => exact ⟨0, Nat.zero_le _, rfl, (fun hh => absurd hh (by omega)), (fun hh => absurd hh (by omega))⟩
  case round =>
    obtain ⟨k, hk, rfl, hno⟩ := hrel
    rcases (show k = 0 ∨ k = 1 ∨ k = 2 by omega) with rfl | rfl | rfl
    · by_cases hs : a < m
      · have HR := Lib.hid (readyU_small (xs := xs) hs)
        go_wp2_with fail
        go_round
        case rel => exact ⟨1, by omega, by go_num, (fun _ => HR.out), (fun hh => absurd hh (by omega))⟩
        case measure => simp [intOf]
      · have hbig := readyU_big (xs := xs) hs
        have hs' : m ≤ a := by omega
        clear hs
        rcases hc : xs.contains (a - m) with _ | _
        · have HR := Lib.hid (ready_a (j := ⟨up, a, b2⟩) (hbig.trans hc))
          go_wp2_with (go_at_call 95; refine (indexOf_any _ _ _ xs _ _ h2 hn).mono ?_; rintro e w' ⟨r, rfl, hr1, hr2, rfl⟩; have hr3 := hr2 hc)
          go_ret
          exact ⟨ret_b HR.out, by (repeat (first | exact Below.refl _ _ | assumption | (refine Below.drew ?_) | (refine below_drewN ?_ _) | (refine Below.alloc ?_ (by first | exact Nat.le_refl _ | (simp; done) | (simp; omega) | omega) _) | (refine Below.setCell ?_ (by first | exact Nat.le_refl _ | (simp; done) | (simp; omega) | omega) _) | (refine Below.trans ?_ (Below.mono (by assumption) (by first | exact Nat.le_refl _ | (simp; done) | (simp; omega) | omega)))))⟩
        · have HR := Lib.hid (hbig.trans hc)
          go_wp2_with (go_at_call 95; refine (indexOf_any _ _ _ xs _ _ h2 hn).mono ?_; rintro e w' ⟨r, rfl, hr1, hr2, rfl⟩; have hr3 := hr1 hc)
          go_round
          case rel => exact ⟨1, by omega, by go_num, (fun _ => HR.out), (fun hh => absurd hh (by omega))⟩
          case measure => simp [intOf]
    · by_cases hs : b2 < m
      · have HR := Lib.hid (readyU_small (xs := xs) hs)
        go_wp2_with fail
        go_round
        case rel => exact ⟨2, by omega, by go_num, (fun _ => hno.out.1 (by omega)), (fun _ => HR.out)⟩
        case measure => simp [intOf]
      · have hbig := readyU_big (xs := xs) hs
        have hs' : m ≤ b2 := by omega
        clear hs
        rcases hc : xs.contains (b2 - m) with _ | _
        · have HR := Lib.hid (ready_b (j := ⟨up, a, b2⟩) (hbig.trans hc))
          go_wp2_with (go_at_call 95; refine (indexOf_any _ _ _ xs _ _ h2 hn).mono ?_; rintro e w' ⟨r, rfl, hr1, hr2, rfl⟩; have hr3 := hr2 hc)
          go_ret
          exact ⟨ret_b HR.out, by (repeat (first | exact Below.refl _ _ | assumption | (refine Below.drew ?_) | (refine below_drewN ?_ _) | (refine Below.alloc ?_ (by first | exact Nat.le_refl _ | (simp; done) | (simp; omega) | omega) _) | (refine Below.setCell ?_ (by first | exact Nat.le_refl _ | (simp; done) | (simp; omega) | omega) _) | (refine Below.trans ?_ (Below.mono (by assumption) (by first | exact Nat.le_refl _ | (simp; done) | (simp; omega) | omega)))))⟩
        · have HR := Lib.hid (hbig.trans hc)
          go_wp2_with (go_at_call 95; refine (indexOf_any _ _ _ xs _ _ h2 hn).mono ?_; rintro e w' ⟨r, rfl, hr1, hr2, rfl⟩; have hr3 := hr1 hc)
          go_round
          case rel => exact ⟨2, by omega, by go_num, (fun _ => hno.out.1 (by omega)), (fun _ => HR.out)⟩
          case measure => simp [intOf]
    · have HR := Lib.hid (ready_ab (j := ⟨up, a, b2⟩) (hno.out.1 (by omega)) (hno.out.2 (by omega)))
      go_wp2
      go_ret
      exact ⟨ret_b HR.out, by (repeat (first | exact Below.refl _ _ | assumption | (refine Below.drew ?_) | (refine below_drewN ?_ _) | (refine Below.alloc ?_ (by first | exact Nat.le_refl _ | (simp; done) | (simp; omega) | omega) _) | (refine Below.setCell ?_ (by first | exact Nat.le_refl _ | (simp; done) | (simp; omega) | omega) _) | (refine Below.trans ?_ (Below.mono (by assumption) (by first | exact Nat.le_refl _ | (simp; done) | (simp; omega) | omega)))))⟩

end Go.Proofs.Ytmjdgplkcocgmaa
