/-
  Contracts over layouts: what a layout is, in the program's way and in the reference's.
-/
import Derived.Test.YtmjdgplkcocgmaaZPlain
import Derived.Test.YtmjdgplkcocgmaaScalA
import Derived.Test.YtmjdgplkcocgmaaFlatPatch
set_option linter.unusedVariables false
namespace Go.Proofs.Ytmjdgplkcocgmaa
open Go.RowKit

theorem apart_take_succ {ps : List Patch} {k : Nat} {p : Patch} (h : apart (ps.take k)) (hp : ps[k]? = some p) (ho : ∀ (j : Nat) (q : Patch), j < k → ps[j]? = some q → overlap p q = false) : apart (ps.take (k + 1)) := by
  intro i j a b ha hb hj
  rw [List.getElem?_take] at ha hb
  split at ha
  · split at hb
    · by_cases e : i = k
      · subst e
        rw [hp] at ha
        injection ha with ha
        subst ha
        exact ho j b hj hb
      · refine h i j a b ?_ ?_ hj
        · rw [List.getElem?_take, if_pos (by omega)]; exact ha
        · rw [List.getElem?_take, if_pos (by omega)]; exact hb
    · cases hb
  · cases ha
theorem apart_zero (ps : List Patch) : apart (ps.take 0) := fun i j a b ha => by simp at ha
theorem area_take_succ {ps : List Patch} {k : Nat} {p : Patch} (hp : ps[k]? = some p) : areaOf (ps.take (k + 1)) = areaOf (ps.take k) + p.W * p.H := by
  unfold areaOf
  rw [List.take_add_one, hp, List.map_append, List.sum_append]
  simp
theorem mul_bd {a b : Int} (ha : 1 ≤ a) (ha2 : a ≤ 12) (hb : 1 ≤ b) (hb2 : b ≤ 12) : 1 ≤ a * b ∧ a * b ≤ 144 := by
  have h1 : 1 * 1 ≤ a * b := Int.mul_le_mul ha hb (by decide) (by omega)
  have h2 : a * b ≤ 12 * 12 := Int.mul_le_mul ha2 hb2 (by omega) (by decide)
  omega
theorem area_take_bd {w h : Int} {ps : List Patch} (hw : w ≤ 12) (hh : h ≤ 12) : ∀ k, (ps.take k).all (patchIn w h) = true → 0 ≤ areaOf (ps.take k) ∧ areaOf (ps.take k) ≤ 144 * (k : Int) := by
  intro k
  induction k with
  | zero => intro _; exact ⟨Int.le_refl _, Int.le_refl _⟩
  | succ k ih =>
    intro ha
    have hk : (ps.take k).all (patchIn w h) = true := List.all_eq_true.2 fun p hp => List.all_eq_true.1 ha p ((List.take_prefix_take_left (Nat.le_succ k)).subset hp)
    have h1 := ih hk
    cases hx : ps[k]? with
    | none =>
      have : ps.take (k + 1) = ps.take k := by rw [List.take_of_length_le (by have := List.getElem?_eq_none_iff.1 hx; omega), List.take_of_length_le (List.getElem?_eq_none_iff.1 hx)]
      rw [this]
      omega
    | some p =>
      have hp : patchIn w h p = true := List.all_eq_true.1 ha p (List.mem_of_getElem? (i := k) (by rw [List.getElem?_take, if_pos (by omega)]; exact hx))
      have hb := patchIn_bd hp
      have := mul_bd (a := p.W) (b := p.H) (by omega) (by omega) (by omega) (by omega)
      rw [area_take_succ hx]
      omega
theorem covers_succ {ps : List Patch} {k : Nat} {p : Patch} (hp : ps[k]? = some p) (x y : Int) : covers (ps.take (k + 1)) x y = covers (ps.take k) x y + if has p x y then 1 else 0 := by
  unfold covers
  rw [List.take_add_one, hp, List.countP_append]
  simp
theorem covers_le_take (ps : List Patch) (k : Nat) (x y : Int) : covers (ps.take k) x y ≤ k := by
  unfold covers
  exact Nat.le_trans List.countP_le_length (List.length_take_le _ _)

theorem isColor_any (a : Int) (w : World) : Calls Try.prog 100 #[.int .i64 a] w fun e w' => e = .returned (.bool (within a 0 5)) ∧ w = w' := by
  go_enter Try.func100, Try.ntmps100
  go_wp2_with (go_at_call 74; refine (within_any _ _ _ _).mono ?_; rintro e w' ⟨rfl, rfl⟩)
  go_ret
  exact ⟨rfl, rfl⟩

theorem has_any (pX pY pW pH pC x y : Int) (W : World) (h1 : 0 ≤ pX) (h2 : pX ≤ 100) (h3 : 0 ≤ pY) (h4 : pY ≤ 100) (h5 : 0 ≤ pW) (h6 : pW ≤ 100) (h7 : 0 ≤ pH) (h8 : pH ≤ 100) :
    Calls Try.prog 101 #[.agg #[.int .i64 pX, .int .i64 pY, .int .i64 pW, .int .i64 pH, .int .i64 pC], .int .i64 x, .int .i64 y] W fun e w' => e = .returned (.bool (has ⟨pX, pY, pW, pH, pC⟩ x y)) ∧ Below W.heap.size W w' := by
  have HU := Lib.hid (show has ⟨pX, pY, pW, pH, pC⟩ x y = (decide (pX ≤ x) && decide (x < pX + pW) && (decide (pY ≤ y) && decide (y < pY + pH))) from rfl)
  rcases v0 : decide (pX ≤ x) with _ | _
  · have HN := Lib.hid (show false = has ⟨pX, pY, pW, pH, pC⟩ x y by rw [HU.out, v0]; rfl)
    go_enter Try.func101, Try.ntmps101
    go_wp2
    go_ret
    exact ⟨ret_b HN.out, by (repeat (first | exact Below.refl _ _ | assumption | (refine Below.drew ?_) | (refine below_drewN ?_ _) | (refine Below.alloc ?_ (by first | exact Nat.le_refl _ | (simp; done) | (simp; omega) | omega) _) | (refine Below.setCell ?_ (by first | exact Nat.le_refl _ | (simp; done) | (simp; omega) | omega) _) | (refine Below.trans ?_ (Below.mono (by assumption) (by first | exact Nat.le_refl _ | (simp; done) | (simp; omega) | omega)))))⟩
  rcases v1 : decide (x < pX + pW) with _ | _
  · have HN := Lib.hid (show false = has ⟨pX, pY, pW, pH, pC⟩ x y by rw [HU.out, v0, v1]; rfl)
    go_enter Try.func101, Try.ntmps101
    go_wp2
    go_ret
    exact ⟨ret_b HN.out, by (repeat (first | exact Below.refl _ _ | assumption | (refine Below.drew ?_) | (refine below_drewN ?_ _) | (refine Below.alloc ?_ (by first | exact Nat.le_refl _ | (simp; done) | (simp; omega) | omega) _) | (refine Below.setCell ?_ (by first | exact Nat.le_refl _ | (simp; done) | (simp; omega) | omega) _) | (refine Below.trans ?_ (Below.mono (by assumption) (by first | exact Nat.le_refl _ | (simp; done) | (simp; omega) | omega)))))⟩
  rcases v2 : decide (pY ≤ y) with _ | _
  · have HN := Lib.hid (show false = has ⟨pX, pY, pW, pH, pC⟩ x y by rw [HU.out, v0, v1, v2]; rfl)
    go_enter Try.func101, Try.ntmps101
    go_wp2
    go_ret
    exact ⟨ret_b HN.out, by (repeat (first | exact Below.refl _ _ | assumption | (refine Below.drew ?_) | (refine below_drewN ?_ _) | (refine Below.alloc ?_ (by first | exact Nat.le_refl _ | (simp; done) | (simp; omega) | omega) _) | (refine Below.setCell ?_ (by first | exact Nat.le_refl _ | (simp; done) | (simp; omega) | omega) _) | (refine Below.trans ?_ (Below.mono (by assumption) (by first | exact Nat.le_refl _ | (simp; done) | (simp; omega) | omega)))))⟩
  rcases v3 : decide (y < pY + pH) with _ | _
  · have HN := Lib.hid (show false = has ⟨pX, pY, pW, pH, pC⟩ x y by rw [HU.out, v0, v1, v2, v3]; rfl)
    go_enter Try.func101, Try.ntmps101
    go_wp2
    go_ret
    exact ⟨ret_b HN.out, by (repeat (first | exact Below.refl _ _ | assumption | (refine Below.drew ?_) | (refine below_drewN ?_ _) | (refine Below.alloc ?_ (by first | exact Nat.le_refl _ | (simp; done) | (simp; omega) | omega) _) | (refine Below.setCell ?_ (by first | exact Nat.le_refl _ | (simp; done) | (simp; omega) | omega) _) | (refine Below.trans ?_ (Below.mono (by assumption) (by first | exact Nat.le_refl _ | (simp; done) | (simp; omega) | omega)))))⟩
  have HN := Lib.hid (show true = has ⟨pX, pY, pW, pH, pC⟩ x y by rw [HU.out, v0, v1, v2, v3]; rfl)
  go_enter Try.func101, Try.ntmps101
  go_wp2
  go_ret
  exact ⟨ret_b HN.out, by (repeat (first | exact Below.refl _ _ | assumption | (refine Below.drew ?_) | (refine below_drewN ?_ _) | (refine Below.alloc ?_ (by first | exact Nat.le_refl _ | (simp; done) | (simp; omega) | omega) _) | (refine Below.setCell ?_ (by first | exact Nat.le_refl _ | (simp; done) | (simp; omega) | omega) _) | (refine Below.trans ?_ (Below.mono (by assumption) (by first | exact Nat.le_refl _ | (simp; done) | (simp; omega) | omega)))))⟩

set_option maxRecDepth 100000 in
set_option maxHeartbeats 4000000 in
theorem layoutI_any (w h : Int) (A : Option Addr) (n c : Nat) (ps : List Patch) (W : World) (hR : Rd W A n 5 ps patchC) (hN : n ≤ 1048576) :
    Calls Try.prog 73 #[.agg #[.int .i64 w, .int .i64 h, .slice A n c]] W fun e w' => e = .returned (.bool (layoutOk w h ps)) ∧ Below W.heap.size W w' := by
  have HLEN := Lib.hid hR.len
  rcases hw1 : within w 1 12 with _ | _
  · have HN := Lib.hid (show false = layoutOk w h ps from layout_dims (by unfold dimsOk; rw [hw1]; rfl))
    go_enter Try.func73, Try.ntmps73
    go_wp2_with (first | (go_at_call 74; refine (within_any _ _ _ _).mono ?_; rintro e w' ⟨rfl, rfl⟩) | (go_at_call 100; refine (isColor_any _ _).mono ?_; rintro e w' ⟨rfl, rfl⟩))
    go_ret
    exact ⟨ret_b HN.out, by (repeat (first | exact Below.refl _ _ | assumption | (refine Below.drew ?_) | (refine below_drewN ?_ _) | (refine Below.alloc ?_ (by first | exact Nat.le_refl _ | (simp; done) | (simp; omega) | omega) _) | (refine Below.setCell ?_ (by first | exact Nat.le_refl _ | (simp; done) | (simp; omega) | omega) _) | (refine Below.trans ?_ (Below.mono (by assumption) (by first | exact Nat.le_refl _ | (simp; done) | (simp; omega) | omega)))))⟩
  rcases hh1 : within h 1 12 with _ | _
  · have HN := Lib.hid (show false = layoutOk w h ps from layout_dims (by unfold dimsOk; rw [hw1, hh1]; rfl))
    go_enter Try.func73, Try.ntmps73
    go_wp2_with (first | (go_at_call 74; refine (within_any _ _ _ _).mono ?_; rintro e w' ⟨rfl, rfl⟩) | (go_at_call 100; refine (isColor_any _ _).mono ?_; rintro e w' ⟨rfl, rfl⟩))
    go_ret
    exact ⟨ret_b HN.out, by (repeat (first | exact Below.refl _ _ | assumption | (refine Below.drew ?_) | (refine below_drewN ?_ _) | (refine Below.alloc ?_ (by first | exact Nat.le_refl _ | (simp; done) | (simp; omega) | omega) _) | (refine Below.setCell ?_ (by first | exact Nat.le_refl _ | (simp; done) | (simp; omega) | omega) _) | (refine Below.trans ?_ (Below.mono (by assumption) (by first | exact Nat.le_refl _ | (simp; done) | (simp; omega) | omega)))))⟩
  rcases hn1 : within (n : Int) 1 12 with _ | _
  · have HN := Lib.hid (show false = layoutOk w h ps from layout_dims (by unfold dimsOk; rw [hw1, hh1, HLEN.out, hn1]; rfl))
    go_enter Try.func73, Try.ntmps73
    go_wp2_with (first | (go_at_call 74; refine (within_any _ _ _ _).mono ?_; rintro e w' ⟨rfl, rfl⟩) | (go_at_call 100; refine (isColor_any _ _).mono ?_; rintro e w' ⟨rfl, rfl⟩))
    go_ret
    exact ⟨ret_b HN.out, by (repeat (first | exact Below.refl _ _ | assumption | (refine Below.drew ?_) | (refine below_drewN ?_ _) | (refine Below.alloc ?_ (by first | exact Nat.le_refl _ | (simp; done) | (simp; omega) | omega) _) | (refine Below.setCell ?_ (by first | exact Nat.le_refl _ | (simp; done) | (simp; omega) | omega) _) | (refine Below.trans ?_ (Below.mono (by assumption) (by first | exact Nat.le_refl _ | (simp; done) | (simp; omega) | omega)))))⟩
  have HD := Lib.hid (show dimsOk w h ps.length = true by unfold dimsOk; rw [hw1, hh1, HLEN.out, hn1]; rfl)
  have hwb := within_iff.1 hw1
  have hhb := within_iff.1 hh1
  have hnb := within_iff.1 hn1
  obtain ⟨wn, rfl⟩ := Int.eq_ofNat_of_zero_le (show 0 ≤ w by omega)
  obtain ⟨hn, rfl⟩ := Int.eq_ofNat_of_zero_le (show 0 ≤ h by omega)
  have hn12 : n ≤ 12 := by omega
  have hwn : wn ≤ 12 := by omega
  have hhn : hn ≤ 12 := by omega
  have hwn1 : 1 ≤ wn := by omega
  have hhn1 : 1 ≤ hn := by omega
  clear hwb hhb hnb
  obtain ⟨jb, hjb⟩ : ∃ j, Hid (j = W.heap.size) := ⟨_, rfl⟩
  have e0 : (W.alloc (.cells #[.int .i64 (wn : Int), .int .i64 (hn : Int), .slice A n c] 30)).cell? ⟨jb, 0, none⟩ = some (.int .i64 (wn : Int)) := by rw [hjb.out, cell_of_row _ _ _ _ _ _ (heap_alloc_new W _)]; rfl
  have e1 : (W.alloc (.cells #[.int .i64 (wn : Int), .int .i64 (hn : Int), .slice A n c] 30)).cell? ⟨jb, 1, none⟩ = some (.int .i64 (hn : Int)) := by rw [hjb.out, cell_of_row _ _ _ _ _ _ (heap_alloc_new W _)]; rfl
  have e2 : (W.alloc (.cells #[.int .i64 (wn : Int), .int .i64 (hn : Int), .slice A n c] 30)).cell? ⟨jb, 2, none⟩ = some (.slice A n c) := by rw [hjb.out, cell_of_row _ _ _ _ _ _ (heap_alloc_new W _)]; rfl
  have hR1 : Rd (W.alloc (.cells #[.int .i64 (wn : Int), .int .i64 (hn : Int), .slice A n c] 30)) A n 5 ps patchC := hR.below ((Below.refl _ _).alloc (Nat.le_refl _) _)
  have hBW : Below W.heap.size W (W.alloc (.cells #[.int .i64 (wn : Int), .int .i64 (hn : Int), .slice A n c] 30)) := (Below.refl _ _).alloc (Nat.le_refl _) _
  have hsW : W.heap.size ≤ (W.alloc (.cells #[.int .i64 (wn : Int), .int .i64 (hn : Int), .slice A n c] 30)).heap.size := by simp
  have hsz : jb < (W.alloc (.cells #[.int .i64 (wn : Int), .int .i64 (hn : Int), .slice A n c] 30)).heap.size := by rw [hjb.out]; simp
  go_enter Try.func73, Try.ntmps73
  go_wp2_with (first | (go_at_call 74; refine (within_any _ _ _ _).mono ?_; rintro e w' ⟨rfl, rfl⟩) | (go_at_call 100; refine (isColor_any _ _).mono ?_; rintro e w' ⟨rfl, rfl⟩))
  rw [← hjb.out]
  generalize W.alloc (.cells #[.int .i64 (wn : Int), .int .i64 (hn : Int), .slice A n c] 30) = W1 at e0 e1 e2 hR1 hBW hsz hsW ⊢
  clear hR hw1 hh1 hn1
  go_loopw [30] (fun i wr => ∃ k : Nat, k ≤ n ∧ i = .int .i64 (k : Int) ∧ Hid ((ps.take k).all (patchIn (wn : Int) (hn : Int)) = true) ∧ Below W1.heap.size W1 wr) (fun i _ => n - (intOf i).toNat)
  case atStart => exact ⟨0, Nat.zero_le _, rfl, by simp [Hid], Below.refl _ _⟩
  case round =>
    obtain ⟨k, hk, rfl, hall, hB⟩ := hrel
    by_cases hlt : k < n
    · -- one patch
      obtain ⟨b, off, x, rfl, hbW, hx, g0, g1, g2, g3, g4⟩ := hR1.patch hlt hB
      have HX := Lib.hid hx
      clear hx
      obtain ⟨pX, pY, pW, pH, pC⟩ := x
      simp only at g0 g1 g2 g3 g4
      have e0r := keepcell e0 hB
      have e1r := keepcell e1 hB
      have e2r := keepcell e2 hB
      have hz := hB.size
      have hjw : jb < wr.heap.size := by omega
      rcases c0 : within pX 0 ((wn : Int) - 1) with _ | _
      · have HP := Lib.hid (show patchIn (wn : Int) (hn : Int) ⟨pX, pY, pW, pH, pC⟩ = false by simp [patchIn, c0])
        go_wp2_with (first | (go_at_call 74; refine (within_any _ _ _ _).mono ?_; rintro e w' ⟨rfl, rfl⟩) | (go_at_call 100; refine (isColor_any _ _).mono ?_; rintro e w' ⟨rfl, rfl⟩))
        go_ret
        exact ⟨ret_b (layout_patch HX.out HP.out), hBW.trans (Below.mono (B := W1.heap.size) (by (repeat (first | exact Below.refl _ _ | assumption | (refine Below.drew ?_) | (refine below_drewN ?_ _) | (refine Below.alloc ?_ (by first | exact Nat.le_refl _ | (simp; done) | (simp; omega) | omega) _) | (refine Below.setCell ?_ (by first | exact Nat.le_refl _ | (simp; done) | (simp; omega) | omega) _) | (refine Below.trans ?_ (Below.mono (by assumption) (by first | exact Nat.le_refl _ | (simp; done) | (simp; omega) | omega)))))) hsW)⟩
      have b0 := within_iff.1 c0
      rcases c1 : within pY 0 ((hn : Int) - 1) with _ | _
      · have HP := Lib.hid (show patchIn (wn : Int) (hn : Int) ⟨pX, pY, pW, pH, pC⟩ = false by simp [patchIn, c1])
        go_wp2_with (first | (go_at_call 74; refine (within_any _ _ _ _).mono ?_; rintro e w' ⟨rfl, rfl⟩) | (go_at_call 100; refine (isColor_any _ _).mono ?_; rintro e w' ⟨rfl, rfl⟩))
        go_ret
        exact ⟨ret_b (layout_patch HX.out HP.out), hBW.trans (Below.mono (B := W1.heap.size) (by (repeat (first | exact Below.refl _ _ | assumption | (refine Below.drew ?_) | (refine below_drewN ?_ _) | (refine Below.alloc ?_ (by first | exact Nat.le_refl _ | (simp; done) | (simp; omega) | omega) _) | (refine Below.setCell ?_ (by first | exact Nat.le_refl _ | (simp; done) | (simp; omega) | omega) _) | (refine Below.trans ?_ (Below.mono (by assumption) (by first | exact Nat.le_refl _ | (simp; done) | (simp; omega) | omega)))))) hsW)⟩
      have b1 := within_iff.1 c1
      rcases c2 : within pW 1 ((wn : Int) - pX) with _ | _
      · have HP := Lib.hid (show patchIn (wn : Int) (hn : Int) ⟨pX, pY, pW, pH, pC⟩ = false by simp [patchIn, c2])
        go_wp2_with (first | (go_at_call 74; refine (within_any _ _ _ _).mono ?_; rintro e w' ⟨rfl, rfl⟩) | (go_at_call 100; refine (isColor_any _ _).mono ?_; rintro e w' ⟨rfl, rfl⟩))
        go_ret
        exact ⟨ret_b (layout_patch HX.out HP.out), hBW.trans (Below.mono (B := W1.heap.size) (by (repeat (first | exact Below.refl _ _ | assumption | (refine Below.drew ?_) | (refine below_drewN ?_ _) | (refine Below.alloc ?_ (by first | exact Nat.le_refl _ | (simp; done) | (simp; omega) | omega) _) | (refine Below.setCell ?_ (by first | exact Nat.le_refl _ | (simp; done) | (simp; omega) | omega) _) | (refine Below.trans ?_ (Below.mono (by assumption) (by first | exact Nat.le_refl _ | (simp; done) | (simp; omega) | omega)))))) hsW)⟩
      have b2 := within_iff.1 c2
      rcases c3 : within pH 1 ((hn : Int) - pY) with _ | _
      · have HP := Lib.hid (show patchIn (wn : Int) (hn : Int) ⟨pX, pY, pW, pH, pC⟩ = false by simp [patchIn, c3])
        go_wp2_with (first | (go_at_call 74; refine (within_any _ _ _ _).mono ?_; rintro e w' ⟨rfl, rfl⟩) | (go_at_call 100; refine (isColor_any _ _).mono ?_; rintro e w' ⟨rfl, rfl⟩))
        go_ret
        exact ⟨ret_b (layout_patch HX.out HP.out), hBW.trans (Below.mono (B := W1.heap.size) (by (repeat (first | exact Below.refl _ _ | assumption | (refine Below.drew ?_) | (refine below_drewN ?_ _) | (refine Below.alloc ?_ (by first | exact Nat.le_refl _ | (simp; done) | (simp; omega) | omega) _) | (refine Below.setCell ?_ (by first | exact Nat.le_refl _ | (simp; done) | (simp; omega) | omega) _) | (refine Below.trans ?_ (Below.mono (by assumption) (by first | exact Nat.le_refl _ | (simp; done) | (simp; omega) | omega)))))) hsW)⟩
      have b3 := within_iff.1 c3
      rcases c4 : within pC 0 5 with _ | _
      · have HP := Lib.hid (show patchIn (wn : Int) (hn : Int) ⟨pX, pY, pW, pH, pC⟩ = false by simp [patchIn, c4])
        go_wp2_with (first | (go_at_call 74; refine (within_any _ _ _ _).mono ?_; rintro e w' ⟨rfl, rfl⟩) | (go_at_call 100; refine (isColor_any _ _).mono ?_; rintro e w' ⟨rfl, rfl⟩))
        go_ret
        exact ⟨ret_b (layout_patch HX.out HP.out), hBW.trans (Below.mono (B := W1.heap.size) (by (repeat (first | exact Below.refl _ _ | assumption | (refine Below.drew ?_) | (refine below_drewN ?_ _) | (refine Below.alloc ?_ (by first | exact Nat.le_refl _ | (simp; done) | (simp; omega) | omega) _) | (refine Below.setCell ?_ (by first | exact Nat.le_refl _ | (simp; done) | (simp; omega) | omega) _) | (refine Below.trans ?_ (Below.mono (by assumption) (by first | exact Nat.le_refl _ | (simp; done) | (simp; omega) | omega)))))) hsW)⟩
      have b4 := within_iff.1 c4
      have HP := Lib.hid (show patchIn (wn : Int) (hn : Int) ⟨pX, pY, pW, pH, pC⟩ = true by simp [patchIn, c0, c1, c2, c3, c4])
      go_wp2_with (first | (go_at_call 74; refine (within_any _ _ _ _).mono ?_; rintro e w' ⟨rfl, rfl⟩) | (go_at_call 100; refine (isColor_any _ _).mono ?_; rintro e w' ⟨rfl, rfl⟩))
      go_roundw
      case rel => exact ⟨k + 1, by omega, by go_num, all_take_succ HX.out hall.out HP.out, by (repeat (first | exact Below.refl _ _ | assumption | (refine Below.drew ?_) | (refine below_drewN ?_ _) | (refine Below.alloc ?_ (by first | exact Nat.le_refl _ | (simp; done) | (simp; omega) | omega) _) | (refine Below.setCell ?_ (by first | exact Nat.le_refl _ | (simp; done) | (simp; omega) | omega) _) | (refine Below.trans ?_ (Below.mono (by assumption) (by first | exact Nat.le_refl _ | (simp; done) | (simp; omega) | omega)))))⟩
      case measure => simp [intOf]; omega
    · obtain rfl : k = n := by omega
      have HALL := Lib.hid (show ps.all (patchIn (wn : Int) (hn : Int)) = true by have := hall.out; rwa [List.take_of_length_le (Nat.le_of_eq HLEN.out)] at this)
      clear hall hlt
      have e1r := keepcell e1 hB
      go_wp2
      go_loopw [81] (fun i wr => ∃ y : Nat, y ≤ hn ∧ i = .int .i64 (y : Int) ∧ Hid (∀ x' y' : Nat, x' < wn → y' < y → covers ps x' y' = 1) ∧ Below W1.heap.size W1 wr) (fun i _ => hn - (intOf i).toNat)
      case atStart => exact ⟨0, Nat.zero_le _, rfl, fun x' y' _ hy => absurd hy (by omega), hB⟩
      case round =>
        clear hB e1r
        obtain ⟨y, hy, rfl, hones, hB⟩ := hrel
        by_cases hly : y < hn
        · have e0r := keepcell e0 hB
          go_wp2
          go_loopw [86] (fun i wr => ∃ x : Nat, x ≤ wn ∧ i = .int .i64 (x : Int) ∧ Hid (∀ x' : Nat, x' < x → covers ps x' y = 1) ∧ Below W1.heap.size W1 wr) (fun i _ => wn - (intOf i).toNat)
          case atStart => exact ⟨0, Nat.zero_le _, rfl, fun x' hx => absurd hx (by omega), hB⟩
          case round =>
            clear hB e0r
            obtain ⟨x, hx, rfl, honex, hB⟩ := hrel
            by_cases hlx : x < wn
            · have e2r := keepcell e2 hB
              go_wp2
              go_loopw [7, 92] (fun o i wr => ∃ q : Nat, q ≤ k ∧ i = .int .i64 (q : Int) ∧ o = .int .i64 ((covers (ps.take q) x y : Nat) : Int) ∧ Below W1.heap.size W1 wr) (fun _ i _ => k - (intOf i).toNat)
              case atStart => exact ⟨0, Nat.zero_le _, rfl, rfl, hB⟩
              case round =>
                clear hB e2r
                obtain ⟨q, hq, rfl, rfl, hB⟩ := hrel
                have hcl := covers_le_take ps q x y
                by_cases hlt : q < k
                · obtain ⟨b, off, z, rfl, hbW, hz, g0, g1, g2, g3, g4⟩ := hR1.patch hlt hB
                  have hzb := patchIn_bd (List.all_eq_true.1 HALL.out z (List.mem_of_getElem? hz))
                  have HC := Lib.hid (covers_succ hz x y)
                  clear hz
                  obtain ⟨pX, pY, pW, pH, pC⟩ := z
                  simp only at g0 g1 g2 g3 g4 hzb
                  have hzs := hB.size
                  rcases hh : has ⟨pX, pY, pW, pH, pC⟩ (x : Int) (y : Int) with _ | _
                  · go_wp2_with (go_at_call 101; refine (has_any _ _ _ _ _ _ _ _ (by omega) (by omega) (by omega) (by omega) (by omega) (by omega) (by omega) (by omega)).mono ?_; rintro e w3 ⟨rfl, hb3⟩; rw [hh]; have hB3 : Below W1.heap.size W1 w3 := (by (repeat (first | exact Below.refl _ _ | assumption | (refine Below.drew ?_) | (refine below_drewN ?_ _) | (refine Below.alloc ?_ (by first | exact Nat.le_refl _ | (simp; done) | (simp; omega) | omega) _) | (refine Below.setCell ?_ (by first | exact Nat.le_refl _ | (simp; done) | (simp; omega) | omega) _) | (refine Below.trans ?_ (Below.mono (by assumption) (by first | exact Nat.le_refl _ | (simp; done) | (simp; omega) | omega)))))))
                    go_roundw
                    case rel => exact ⟨q + 1, by omega, by go_num, by rw [HC.out, hh]; rfl, hB3⟩
                    case measure => simp [intOf]; omega
                  · go_wp2_with (go_at_call 101; refine (has_any _ _ _ _ _ _ _ _ (by omega) (by omega) (by omega) (by omega) (by omega) (by omega) (by omega) (by omega)).mono ?_; rintro e w3 ⟨rfl, hb3⟩; rw [hh]; have hB3 : Below W1.heap.size W1 w3 := (by (repeat (first | exact Below.refl _ _ | assumption | (refine Below.drew ?_) | (refine below_drewN ?_ _) | (refine Below.alloc ?_ (by first | exact Nat.le_refl _ | (simp; done) | (simp; omega) | omega) _) | (refine Below.setCell ?_ (by first | exact Nat.le_refl _ | (simp; done) | (simp; omega) | omega) _) | (refine Below.trans ?_ (Below.mono (by assumption) (by first | exact Nat.le_refl _ | (simp; done) | (simp; omega) | omega)))))))
                    go_roundw
                    case rel => exact ⟨q + 1, by omega, by go_num, by rw [HC.out, hh, if_pos rfl]; go_num, hB3⟩
                    case measure => simp [intOf]; omega
                · obtain rfl : q = k := by omega
                  rw [List.take_of_length_le (Nat.le_of_eq HLEN.out)] at hcl ⊢
                  by_cases h1 : covers ps x y = 1
                  · rw [h1]
                    have H1 := Lib.hid h1
                    clear h1 hcl
                    go_wp2
                    go_roundw
                    case rel =>
                      refine ⟨x + 1, by omega, by go_num, fun x' hx' => ?_, hB⟩
                      by_cases e : x' = x
                      · rw [e]; exact H1.out
                      · exact honex.out x' (by omega)
                    case measure => simp [intOf]; omega
                  · have HN := Lib.hid (layout_cover HD.out HALL.out (show x < (wn : Int).toNat by rw [Int.toNat_natCast]; exact hlx) (show y < (hn : Int).toNat by rw [Int.toNat_natCast]; exact hly) h1)
                    generalize covers ps x y = cv at h1 hcl
                    have h1' : ((cv : Int) == 1) = false := by rw [beq_eq_false_iff_ne]; omega
                    clear h1
                    go_wp2
                    go_ret
                    exact ⟨ret_b HN.out, hBW.trans (Below.mono (B := W1.heap.size) (by (repeat (first | exact Below.refl _ _ | assumption | (refine Below.drew ?_) | (refine below_drewN ?_ _) | (refine Below.alloc ?_ (by first | exact Nat.le_refl _ | (simp; done) | (simp; omega) | omega) _) | (refine Below.setCell ?_ (by first | exact Nat.le_refl _ | (simp; done) | (simp; omega) | omega) _) | (refine Below.trans ?_ (Below.mono (by assumption) (by first | exact Nat.le_refl _ | (simp; done) | (simp; omega) | omega)))))) hsW)⟩
            · obtain rfl : x = wn := by omega
              go_wp2
              go_roundw
              case rel =>
                refine ⟨y + 1, by omega, by go_num, fun x' y' hx' hy' => ?_, hB⟩
                by_cases e : y' = y
                · rw [e]; exact honex.out x' hx'
                · exact hones.out x' y' hx' (by omega)
              case measure => simp [intOf]; omega
        · obtain rfl : y = hn := by omega
          have HN := Lib.hid (layout_all HD.out HALL.out fun x' y' hx' hy' => hones.out x' y' (by simpa using hx') (by simpa using hy'))
          go_wp2
          go_ret
          exact ⟨ret_b HN.out, hBW.trans (Below.mono (B := W1.heap.size) (by (repeat (first | exact Below.refl _ _ | assumption | (refine Below.drew ?_) | (refine below_drewN ?_ _) | (refine Below.alloc ?_ (by first | exact Nat.le_refl _ | (simp; done) | (simp; omega) | omega) _) | (refine Below.setCell ?_ (by first | exact Nat.le_refl _ | (simp; done) | (simp; omega) | omega) _) | (refine Below.trans ?_ (Below.mono (by assumption) (by first | exact Nat.le_refl _ | (simp; done) | (simp; omega) | omega)))))) hsW)⟩

set_option maxRecDepth 100000 in
set_option maxHeartbeats 4000000 in
theorem layoutS_any (w h : Int) (A : Option Addr) (n c : Nat) (ps : List Patch) (W : World) (hR : Rd W A n 5 ps patchC) (hN : n ≤ 1048576) :
    Calls Try.prog 58 #[.agg #[.int .i64 w, .int .i64 h, .slice A n c]] W fun e w' => e = .returned (.bool (layoutOk w h ps)) ∧ Below W.heap.size W w' := by
  have HLEN := Lib.hid hR.len
  rcases hw1 : within w 1 12 with _ | _
  · have HN := Lib.hid (show false = layoutOk w h ps from layout_dims (by unfold dimsOk; rw [hw1]; rfl))
    go_enter Try.func58, Try.ntmps58
    go_wp2_with ((go_at_call 70; refine (l01In_any _ _ _ _).mono ?_; rintro e w' ⟨rfl, rfl⟩))
    go_ret
    exact ⟨ret_b HN.out, by (repeat (first | exact Below.refl _ _ | assumption | (refine Below.drew ?_) | (refine below_drewN ?_ _) | (refine Below.alloc ?_ (by first | exact Nat.le_refl _ | (simp; done) | (simp; omega) | omega) _) | (refine Below.setCell ?_ (by first | exact Nat.le_refl _ | (simp; done) | (simp; omega) | omega) _) | (refine Below.trans ?_ (Below.mono (by assumption) (by first | exact Nat.le_refl _ | (simp; done) | (simp; omega) | omega)))))⟩
  rcases hh1 : within h 1 12 with _ | _
  · have HN := Lib.hid (show false = layoutOk w h ps from layout_dims (by unfold dimsOk; rw [hw1, hh1]; rfl))
    go_enter Try.func58, Try.ntmps58
    go_wp2_with ((go_at_call 70; refine (l01In_any _ _ _ _).mono ?_; rintro e w' ⟨rfl, rfl⟩))
    go_ret
    exact ⟨ret_b HN.out, by (repeat (first | exact Below.refl _ _ | assumption | (refine Below.drew ?_) | (refine below_drewN ?_ _) | (refine Below.alloc ?_ (by first | exact Nat.le_refl _ | (simp; done) | (simp; omega) | omega) _) | (refine Below.setCell ?_ (by first | exact Nat.le_refl _ | (simp; done) | (simp; omega) | omega) _) | (refine Below.trans ?_ (Below.mono (by assumption) (by first | exact Nat.le_refl _ | (simp; done) | (simp; omega) | omega)))))⟩
  rcases hn1 : within (n : Int) 1 12 with _ | _
  · have HN := Lib.hid (show false = layoutOk w h ps from layout_dims (by unfold dimsOk; rw [hw1, hh1, HLEN.out, hn1]; rfl))
    go_enter Try.func58, Try.ntmps58
    go_wp2_with ((go_at_call 70; refine (l01In_any _ _ _ _).mono ?_; rintro e w' ⟨rfl, rfl⟩))
    go_ret
    exact ⟨ret_b HN.out, by (repeat (first | exact Below.refl _ _ | assumption | (refine Below.drew ?_) | (refine below_drewN ?_ _) | (refine Below.alloc ?_ (by first | exact Nat.le_refl _ | (simp; done) | (simp; omega) | omega) _) | (refine Below.setCell ?_ (by first | exact Nat.le_refl _ | (simp; done) | (simp; omega) | omega) _) | (refine Below.trans ?_ (Below.mono (by assumption) (by first | exact Nat.le_refl _ | (simp; done) | (simp; omega) | omega)))))⟩
  have HD := Lib.hid (show dimsOk w h ps.length = true by unfold dimsOk; rw [hw1, hh1, HLEN.out, hn1]; rfl)
  have hwb := within_iff.1 hw1
  have hhb := within_iff.1 hh1
  have hnb := within_iff.1 hn1
  obtain ⟨wn, rfl⟩ := Int.eq_ofNat_of_zero_le (show 0 ≤ w by omega)
  obtain ⟨hn, rfl⟩ := Int.eq_ofNat_of_zero_le (show 0 ≤ h by omega)
  have hn12 : n ≤ 12 := by omega
  have hwn : wn ≤ 12 := by omega
  have hhn : hn ≤ 12 := by omega
  have hwn1 : 1 ≤ wn := by omega
  have hhn1 : 1 ≤ hn := by omega
  clear hwb hhb hnb
  obtain ⟨jb, hjb⟩ : ∃ j, Hid (j = W.heap.size) := ⟨_, rfl⟩
  have e0 : (W.alloc (.cells #[.int .i64 (wn : Int), .int .i64 (hn : Int), .slice A n c] 30)).cell? ⟨jb, 0, none⟩ = some (.int .i64 (wn : Int)) := by rw [hjb.out, cell_of_row _ _ _ _ _ _ (heap_alloc_new W _)]; rfl
  have e1 : (W.alloc (.cells #[.int .i64 (wn : Int), .int .i64 (hn : Int), .slice A n c] 30)).cell? ⟨jb, 1, none⟩ = some (.int .i64 (hn : Int)) := by rw [hjb.out, cell_of_row _ _ _ _ _ _ (heap_alloc_new W _)]; rfl
  have e2 : (W.alloc (.cells #[.int .i64 (wn : Int), .int .i64 (hn : Int), .slice A n c] 30)).cell? ⟨jb, 2, none⟩ = some (.slice A n c) := by rw [hjb.out, cell_of_row _ _ _ _ _ _ (heap_alloc_new W _)]; rfl
  have hR1 : Rd (W.alloc (.cells #[.int .i64 (wn : Int), .int .i64 (hn : Int), .slice A n c] 30)) A n 5 ps patchC := hR.below ((Below.refl _ _).alloc (Nat.le_refl _) _)
  have hBW : Below W.heap.size W (W.alloc (.cells #[.int .i64 (wn : Int), .int .i64 (hn : Int), .slice A n c] 30)) := (Below.refl _ _).alloc (Nat.le_refl _) _
  have hsW : W.heap.size ≤ (W.alloc (.cells #[.int .i64 (wn : Int), .int .i64 (hn : Int), .slice A n c] 30)).heap.size := by simp
  have hsz : jb < (W.alloc (.cells #[.int .i64 (wn : Int), .int .i64 (hn : Int), .slice A n c] 30)).heap.size := by rw [hjb.out]; simp
  go_enter Try.func58, Try.ntmps58
  go_wp2_with ((go_at_call 70; refine (l01In_any _ _ _ _).mono ?_; rintro e w' ⟨rfl, rfl⟩))
  rw [← hjb.out]
  generalize W.alloc (.cells #[.int .i64 (wn : Int), .int .i64 (hn : Int), .slice A n c] 30) = W1 at e0 e1 e2 hR1 hBW hsz hsW ⊢
  clear hR hw1 hh1 hn1
  go_loopw [3, 4] (fun ar i wr => ∃ k : Nat, k ≤ n ∧ i = .int .i64 (k : Int) ∧ ar = .int .i64 (areaOf (ps.take k)) ∧ Hid ((ps.take k).all (patchIn (wn : Int) (hn : Int)) = true) ∧ Hid (apart (ps.take k)) ∧ Below W1.heap.size W1 wr) (fun _ i _ => n - (intOf i).toNat)
  case atStart => exact ⟨0, Nat.zero_le _, rfl, rfl, by simp [Hid], apart_zero _, Below.refl _ _⟩
  case round =>
    obtain ⟨k, hk, rfl, rfl, hall, hap, hB⟩ := hrel
    have hab := area_take_bd (show (wn : Int) ≤ 12 by omega) (show (hn : Int) ≤ 12 by omega) k hall.out
    by_cases hlt : k < n
    · -- one patch
      obtain ⟨b, off, x, rfl, hbW, hx, g0, g1, g2, g3, g4⟩ := hR1.patch hlt hB
      have HX := Lib.hid hx
      clear hx
      obtain ⟨pX, pY, pW, pH, pC⟩ := x
      simp only at g0 g1 g2 g3 g4
      have e0r := keepcell e0 hB
      have e1r := keepcell e1 hB
      have e2r := keepcell e2 hB
      have hz := hB.size
      have hjw : jb < wr.heap.size := by omega
      have HA := Lib.hid (area_take_succ HX.out)
      simp only at HA
      rcases c0 : within pX 0 ((wn : Int) - 1) with _ | _
      · have HP := Lib.hid (show patchIn (wn : Int) (hn : Int) ⟨pX, pY, pW, pH, pC⟩ = false by simp [patchIn, c0])
        go_wp2_with ((go_at_call 70; refine (l01In_any _ _ _ _).mono ?_; rintro e w' ⟨rfl, rfl⟩))
        go_ret
        exact ⟨ret_b (layout_patch HX.out HP.out), hBW.trans (Below.mono (B := W1.heap.size) (by (repeat (first | exact Below.refl _ _ | assumption | (refine Below.drew ?_) | (refine below_drewN ?_ _) | (refine Below.alloc ?_ (by first | exact Nat.le_refl _ | (simp; done) | (simp; omega) | omega) _) | (refine Below.setCell ?_ (by first | exact Nat.le_refl _ | (simp; done) | (simp; omega) | omega) _) | (refine Below.trans ?_ (Below.mono (by assumption) (by first | exact Nat.le_refl _ | (simp; done) | (simp; omega) | omega)))))) hsW)⟩
      have b0 := within_iff.1 c0
      rcases c1 : within pY 0 ((hn : Int) - 1) with _ | _
      · have HP := Lib.hid (show patchIn (wn : Int) (hn : Int) ⟨pX, pY, pW, pH, pC⟩ = false by simp [patchIn, c1])
        go_wp2_with ((go_at_call 70; refine (l01In_any _ _ _ _).mono ?_; rintro e w' ⟨rfl, rfl⟩))
        go_ret
        exact ⟨ret_b (layout_patch HX.out HP.out), hBW.trans (Below.mono (B := W1.heap.size) (by (repeat (first | exact Below.refl _ _ | assumption | (refine Below.drew ?_) | (refine below_drewN ?_ _) | (refine Below.alloc ?_ (by first | exact Nat.le_refl _ | (simp; done) | (simp; omega) | omega) _) | (refine Below.setCell ?_ (by first | exact Nat.le_refl _ | (simp; done) | (simp; omega) | omega) _) | (refine Below.trans ?_ (Below.mono (by assumption) (by first | exact Nat.le_refl _ | (simp; done) | (simp; omega) | omega)))))) hsW)⟩
      have b1 := within_iff.1 c1
      rcases c2 : within pW 1 ((wn : Int) - pX) with _ | _
      · have HP := Lib.hid (show patchIn (wn : Int) (hn : Int) ⟨pX, pY, pW, pH, pC⟩ = false by simp [patchIn, c2])
        go_wp2_with ((go_at_call 70; refine (l01In_any _ _ _ _).mono ?_; rintro e w' ⟨rfl, rfl⟩))
        go_ret
        exact ⟨ret_b (layout_patch HX.out HP.out), hBW.trans (Below.mono (B := W1.heap.size) (by (repeat (first | exact Below.refl _ _ | assumption | (refine Below.drew ?_) | (refine below_drewN ?_ _) | (refine Below.alloc ?_ (by first | exact Nat.le_refl _ | (simp; done) | (simp; omega) | omega) _) | (refine Below.setCell ?_ (by first | exact Nat.le_refl _ | (simp; done) | (simp; omega) | omega) _) | (refine Below.trans ?_ (Below.mono (by assumption) (by first | exact Nat.le_refl _ | (simp; done) | (simp; omega) | omega)))))) hsW)⟩
      have b2 := within_iff.1 c2
      rcases c3 : within pH 1 ((hn : Int) - pY) with _ | _
      · have HP := Lib.hid (show patchIn (wn : Int) (hn : Int) ⟨pX, pY, pW, pH, pC⟩ = false by simp [patchIn, c3])
        go_wp2_with ((go_at_call 70; refine (l01In_any _ _ _ _).mono ?_; rintro e w' ⟨rfl, rfl⟩))
        go_ret
        exact ⟨ret_b (layout_patch HX.out HP.out), hBW.trans (Below.mono (B := W1.heap.size) (by (repeat (first | exact Below.refl _ _ | assumption | (refine Below.drew ?_) | (refine below_drewN ?_ _) | (refine Below.alloc ?_ (by first | exact Nat.le_refl _ | (simp; done) | (simp; omega) | omega) _) | (refine Below.setCell ?_ (by first | exact Nat.le_refl _ | (simp; done) | (simp; omega) | omega) _) | (refine Below.trans ?_ (Below.mono (by assumption) (by first | exact Nat.le_refl _ | (simp; done) | (simp; omega) | omega)))))) hsW)⟩
      have b3 := within_iff.1 c3
      rcases c4 : within pC 0 5 with _ | _
      · have HP := Lib.hid (show patchIn (wn : Int) (hn : Int) ⟨pX, pY, pW, pH, pC⟩ = false by simp [patchIn, c4])
        go_wp2_with ((go_at_call 70; refine (l01In_any _ _ _ _).mono ?_; rintro e w' ⟨rfl, rfl⟩))
        go_ret
        exact ⟨ret_b (layout_patch HX.out HP.out), hBW.trans (Below.mono (B := W1.heap.size) (by (repeat (first | exact Below.refl _ _ | assumption | (refine Below.drew ?_) | (refine below_drewN ?_ _) | (refine Below.alloc ?_ (by first | exact Nat.le_refl _ | (simp; done) | (simp; omega) | omega) _) | (refine Below.setCell ?_ (by first | exact Nat.le_refl _ | (simp; done) | (simp; omega) | omega) _) | (refine Below.trans ?_ (Below.mono (by assumption) (by first | exact Nat.le_refl _ | (simp; done) | (simp; omega) | omega)))))) hsW)⟩
      have b4 := within_iff.1 c4
      have HP := Lib.hid (show patchIn (wn : Int) (hn : Int) ⟨pX, pY, pW, pH, pC⟩ = true by simp [patchIn, c0, c1, c2, c3, c4])
      have hm := mul_bd (a := pW) (b := pH) (by omega) (by omega) (by omega) (by omega)
      generalize areaOf (ps.take k) = ar at hab HA
      obtain ⟨jp, hjp⟩ : ∃ j, Hid (j = wr.heap.size) := ⟨_, rfl⟩
      have p0 : (wr.alloc (.cells #[.int .i64 pX, .int .i64 pY, .int .i64 pW, .int .i64 pH, .int .i64 pC] 44)).cell? ⟨jp, 0, none⟩ = some (.int .i64 pX) := by rw [hjp.out, cell_of_row _ _ _ _ _ _ (heap_alloc_new wr _)]; rfl
      have p1 : (wr.alloc (.cells #[.int .i64 pX, .int .i64 pY, .int .i64 pW, .int .i64 pH, .int .i64 pC] 44)).cell? ⟨jp, 1, none⟩ = some (.int .i64 pY) := by rw [hjp.out, cell_of_row _ _ _ _ _ _ (heap_alloc_new wr _)]; rfl
      have p2 : (wr.alloc (.cells #[.int .i64 pX, .int .i64 pY, .int .i64 pW, .int .i64 pH, .int .i64 pC] 44)).cell? ⟨jp, 2, none⟩ = some (.int .i64 pW) := by rw [hjp.out, cell_of_row _ _ _ _ _ _ (heap_alloc_new wr _)]; rfl
      have p3 : (wr.alloc (.cells #[.int .i64 pX, .int .i64 pY, .int .i64 pW, .int .i64 pH, .int .i64 pC] 44)).cell? ⟨jp, 3, none⟩ = some (.int .i64 pH) := by rw [hjp.out, cell_of_row _ _ _ _ _ _ (heap_alloc_new wr _)]; rfl
      have p4 : (wr.alloc (.cells #[.int .i64 pX, .int .i64 pY, .int .i64 pW, .int .i64 pH, .int .i64 pC] 44)).cell? ⟨jp, 4, none⟩ = some (.int .i64 pC) := by rw [hjp.out, cell_of_row _ _ _ _ _ _ (heap_alloc_new wr _)]; rfl
      have hB1 : Below W1.heap.size W1 (wr.alloc (.cells #[.int .i64 pX, .int .i64 pY, .int .i64 pW, .int .i64 pH, .int .i64 pC] 44)) := by (repeat (first | exact Below.refl _ _ | assumption | (refine Below.drew ?_) | (refine below_drewN ?_ _) | (refine Below.alloc ?_ (by first | exact Nat.le_refl _ | (simp; done) | (simp; omega) | omega) _) | (refine Below.setCell ?_ (by first | exact Nat.le_refl _ | (simp; done) | (simp; omega) | omega) _) | (refine Below.trans ?_ (Below.mono (by assumption) (by first | exact Nat.le_refl _ | (simp; done) | (simp; omega) | omega)))))
      have hzz : W1.heap.size ≤ (wr.alloc (.cells #[.int .i64 pX, .int .i64 pY, .int .i64 pW, .int .i64 pH, .int .i64 pC] 44)).heap.size := by simp; omega
      have hjp2 : jp < (wr.alloc (.cells #[.int .i64 pX, .int .i64 pY, .int .i64 pW, .int .i64 pH, .int .i64 pC] 44)).heap.size := by rw [hjp.out]; simp
      go_wp2_with ((go_at_call 70; refine (l01In_any _ _ _ _).mono ?_; rintro e w' ⟨rfl, rfl⟩))
      rw [← hjp.out]
      generalize wr.alloc (.cells #[.int .i64 pX, .int .i64 pY, .int .i64 pW, .int .i64 pH, .int .i64 pC] 44) = W2 at p0 p1 p2 p3 p4 hB1 hzz hjp2 ⊢
      clear hB hz hjw e0r e1r e2r g0 g1 g2 g3 g4 c0 c1 c2 c3 c4
      go_loopw [6] (fun i wr => ∃ j : Nat, j ≤ k ∧ i = .int .i64 (j : Int) ∧ Hid (∀ (j' : Nat) (q : Patch), j' < j → ps[j']? = some q → overlap ⟨pX, pY, pW, pH, pC⟩ q = false) ∧ Below W2.heap.size W2 wr) (fun i _ => k - (intOf i).toNat)
      case atStart => exact ⟨0, Nat.zero_le _, rfl, fun j' q hj => absurd hj (by omega), Below.refl _ _⟩
      case round =>
        obtain ⟨j, hj, rfl, hno, hB⟩ := hrel
        have hz := hB.size
        have p0r := keepcell p0 hB
        have p1r := keepcell p1 hB
        have p2r := keepcell p2 hB
        have p3r := keepcell p3 hB
        have p4r := keepcell p4 hB
        have hjpw : jp < wr.heap.size := by omega
        by_cases hlj : j < k
        · obtain ⟨b', off', z, ee, hbW', hzx, q0, q1, q2, q3, q4⟩ := hR1.patch (k := j) (by omega) (hB1.trans (hB.mono hzz))
          injection ee with ee
          injection ee with ee1 ee2
          subst ee1 ee2
          have e2r := keepcell e2 (hB1.trans (hB.mono hzz))
          have hzb := patchIn_bd (List.all_eq_true.1 hall.out z (List.mem_of_getElem? (i := j) (by rw [List.getElem?_take, if_pos hlj]; exact hzx)))
          have HQ := Lib.hid hzx
          clear hzx
          obtain ⟨qX, qY, qW, qH, qC⟩ := z
          simp only at q0 q1 q2 q3 q4 hzb
          rcases v0 : decide (pX < qX + qW) with _ | _
          · have HO := Lib.hid (show overlap ⟨pX, pY, pW, pH, pC⟩ ⟨qX, qY, qW, qH, qC⟩ = false by show (decide (pX < qX + qW) && decide (qX < pX + pW) && decide (pY < qY + qH) && decide (qY < pY + pH)) = false; rw [v0]; rfl)
            go_wp2
            go_roundw
            case rel =>
              refine ⟨j + 1, by omega, by go_num, fun j' q' hj' hq' => ?_, by (repeat (first | exact Below.refl _ _ | assumption | (refine Below.drew ?_) | (refine below_drewN ?_ _) | (refine Below.alloc ?_ (by first | exact Nat.le_refl _ | (simp; done) | (simp; omega) | omega) _) | (refine Below.setCell ?_ (by first | exact Nat.le_refl _ | (simp; done) | (simp; omega) | omega) _) | (refine Below.trans ?_ (Below.mono (by assumption) (by first | exact Nat.le_refl _ | (simp; done) | (simp; omega) | omega)))))⟩
              by_cases e : j' = j
              · subst e; rw [HQ.out] at hq'; injection hq' with hq'; rw [← hq']; exact HO.out
              · exact hno.out j' q' (by omega) hq'
            case measure => simp [intOf]; omega
          rcases v1 : decide (qX < pX + pW) with _ | _
          · have HO := Lib.hid (show overlap ⟨pX, pY, pW, pH, pC⟩ ⟨qX, qY, qW, qH, qC⟩ = false by show (decide (pX < qX + qW) && decide (qX < pX + pW) && decide (pY < qY + qH) && decide (qY < pY + pH)) = false; rw [v0, v1]; rfl)
            go_wp2
            go_roundw
            case rel =>
              refine ⟨j + 1, by omega, by go_num, fun j' q' hj' hq' => ?_, by (repeat (first | exact Below.refl _ _ | assumption | (refine Below.drew ?_) | (refine below_drewN ?_ _) | (refine Below.alloc ?_ (by first | exact Nat.le_refl _ | (simp; done) | (simp; omega) | omega) _) | (refine Below.setCell ?_ (by first | exact Nat.le_refl _ | (simp; done) | (simp; omega) | omega) _) | (refine Below.trans ?_ (Below.mono (by assumption) (by first | exact Nat.le_refl _ | (simp; done) | (simp; omega) | omega)))))⟩
              by_cases e : j' = j
              · subst e; rw [HQ.out] at hq'; injection hq' with hq'; rw [← hq']; exact HO.out
              · exact hno.out j' q' (by omega) hq'
            case measure => simp [intOf]; omega
          rcases v2 : decide (pY < qY + qH) with _ | _
          · have HO := Lib.hid (show overlap ⟨pX, pY, pW, pH, pC⟩ ⟨qX, qY, qW, qH, qC⟩ = false by show (decide (pX < qX + qW) && decide (qX < pX + pW) && decide (pY < qY + qH) && decide (qY < pY + pH)) = false; rw [v0, v1, v2]; rfl)
            go_wp2
            go_roundw
            case rel =>
              refine ⟨j + 1, by omega, by go_num, fun j' q' hj' hq' => ?_, by (repeat (first | exact Below.refl _ _ | assumption | (refine Below.drew ?_) | (refine below_drewN ?_ _) | (refine Below.alloc ?_ (by first | exact Nat.le_refl _ | (simp; done) | (simp; omega) | omega) _) | (refine Below.setCell ?_ (by first | exact Nat.le_refl _ | (simp; done) | (simp; omega) | omega) _) | (refine Below.trans ?_ (Below.mono (by assumption) (by first | exact Nat.le_refl _ | (simp; done) | (simp; omega) | omega)))))⟩
              by_cases e : j' = j
              · subst e; rw [HQ.out] at hq'; injection hq' with hq'; rw [← hq']; exact HO.out
              · exact hno.out j' q' (by omega) hq'
            case measure => simp [intOf]; omega
          rcases v3 : decide (qY < pY + pH) with _ | _
          · have HO := Lib.hid (show overlap ⟨pX, pY, pW, pH, pC⟩ ⟨qX, qY, qW, qH, qC⟩ = false by show (decide (pX < qX + qW) && decide (qX < pX + pW) && decide (pY < qY + qH) && decide (qY < pY + pH)) = false; rw [v0, v1, v2, v3]; rfl)
            go_wp2
            go_roundw
            case rel =>
              refine ⟨j + 1, by omega, by go_num, fun j' q' hj' hq' => ?_, by (repeat (first | exact Below.refl _ _ | assumption | (refine Below.drew ?_) | (refine below_drewN ?_ _) | (refine Below.alloc ?_ (by first | exact Nat.le_refl _ | (simp; done) | (simp; omega) | omega) _) | (refine Below.setCell ?_ (by first | exact Nat.le_refl _ | (simp; done) | (simp; omega) | omega) _) | (refine Below.trans ?_ (Below.mono (by assumption) (by first | exact Nat.le_refl _ | (simp; done) | (simp; omega) | omega)))))⟩
              by_cases e : j' = j
              · subst e; rw [HQ.out] at hq'; injection hq' with hq'; rw [← hq']; exact HO.out
              · exact hno.out j' q' (by omega) hq'
            case measure => simp [intOf]; omega
          have HO := Lib.hid (show overlap ⟨pX, pY, pW, pH, pC⟩ ⟨qX, qY, qW, qH, qC⟩ = true by show (decide (pX < qX + qW) && decide (qX < pX + pW) && decide (pY < qY + qH) && decide (qY < pY + pH)) = true; rw [v0, v1, v2, v3]; rfl)
          go_wp2
          go_ret
          exact ⟨ret_b (layout_over HX.out HQ.out hlj HO.out), hBW.trans (hB1.mono hsW |>.trans (Below.mono (B := W2.heap.size) (by (repeat (first | exact Below.refl _ _ | assumption | (refine Below.drew ?_) | (refine below_drewN ?_ _) | (refine Below.alloc ?_ (by first | exact Nat.le_refl _ | (simp; done) | (simp; omega) | omega) _) | (refine Below.setCell ?_ (by first | exact Nat.le_refl _ | (simp; done) | (simp; omega) | omega) _) | (refine Below.trans ?_ (Below.mono (by assumption) (by first | exact Nat.le_refl _ | (simp; done) | (simp; omega) | omega)))))) (by omega)))⟩
        · obtain rfl : j = k := by omega
          go_wp2
          go_roundw
          case rel => exact ⟨j + 1, by omega, by go_num, by rw [HA.out], all_take_succ HX.out hall.out HP.out, apart_take_succ hap.out HX.out hno.out, hB1.trans (Below.mono (B := W2.heap.size) (by (repeat (first | exact Below.refl _ _ | assumption | (refine Below.drew ?_) | (refine below_drewN ?_ _) | (refine Below.alloc ?_ (by first | exact Nat.le_refl _ | (simp; done) | (simp; omega) | omega) _) | (refine Below.setCell ?_ (by first | exact Nat.le_refl _ | (simp; done) | (simp; omega) | omega) _) | (refine Below.trans ?_ (Below.mono (by assumption) (by first | exact Nat.le_refl _ | (simp; done) | (simp; omega) | omega)))))) hzz)⟩
          case measure => simp [intOf]; omega
    · obtain rfl : k = n := by omega
      rw [List.take_of_length_le (Nat.le_of_eq HLEN.out)] at hab hall hap ⊢
      have HN := Lib.hid (layout_area HD.out hall.out hap.out)
      have hm := mul_bd (a := (wn : Int)) (b := (hn : Int)) (by omega) (by omega) (by omega) (by omega)
      have e0r := keepcell e0 hB
      have e1r := keepcell e1 hB
      have e2r := keepcell e2 hB
      generalize areaOf ps = ar at hab HN
      by_cases hv : ar = (wn : Int) * (hn : Int)
      · rw [decide_eq_true hv] at HN
        have hv' : (ar == (wn : Int) * (hn : Int)) = true := by rw [beq_iff_eq]; exact hv
        clear hv
        go_wp2
        go_ret
        exact ⟨ret_b HN.out, hBW.trans (Below.mono (B := W1.heap.size) (by (repeat (first | exact Below.refl _ _ | assumption | (refine Below.drew ?_) | (refine below_drewN ?_ _) | (refine Below.alloc ?_ (by first | exact Nat.le_refl _ | (simp; done) | (simp; omega) | omega) _) | (refine Below.setCell ?_ (by first | exact Nat.le_refl _ | (simp; done) | (simp; omega) | omega) _) | (refine Below.trans ?_ (Below.mono (by assumption) (by first | exact Nat.le_refl _ | (simp; done) | (simp; omega) | omega)))))) hsW)⟩
      · rw [decide_eq_false hv] at HN
        have hv' : (ar == (wn : Int) * (hn : Int)) = false := by rw [beq_eq_false_iff_ne]; exact hv
        clear hv
        go_wp2
        go_ret
        exact ⟨ret_b HN.out, hBW.trans (Below.mono (B := W1.heap.size) (by (repeat (first | exact Below.refl _ _ | assumption | (refine Below.drew ?_) | (refine below_drewN ?_ _) | (refine Below.alloc ?_ (by first | exact Nat.le_refl _ | (simp; done) | (simp; omega) | omega) _) | (refine Below.setCell ?_ (by first | exact Nat.le_refl _ | (simp; done) | (simp; omega) | omega) _) | (refine Below.trans ?_ (Below.mono (by assumption) (by first | exact Nat.le_refl _ | (simp; done) | (simp; omega) | omega)))))) hsW)⟩

end Go.Proofs.Ytmjdgplkcocgmaa
