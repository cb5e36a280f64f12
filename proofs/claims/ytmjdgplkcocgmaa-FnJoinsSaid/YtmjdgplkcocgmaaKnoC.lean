/-
  Contracts over cuts: which lines are cuts.
-/
import Derived.Test.YtmjdgplkcocgmaaKnoB
set_option linter.unusedVariables false
namespace Go.Proofs.Ytmjdgplkcocgmaa
open Go.RowKit

set_option maxRecDepth 100000 in
set_option maxHeartbeats 2000000 in
theorem isCutS_any (w h : Int) (A : Option Addr) (n c : Nat) (ps : List Patch) (up : Bool) (at' : Int) (W : World) (hR : Rd W A n 5 ps patchC) (hN : n ≤ 1048576) :
    Calls Try.prog 93 #[.agg #[.int .i64 w, .int .i64 h, .slice A n c], .agg #[.bool up, .int .i64 at']] W fun e w' => e = .returned (.bool (isCut w h ps ⟨up, at'⟩)) ∧ Below W.heap.size W w' := by
  have HLEN := Lib.hid hR.len
  obtain ⟨jb, hjb⟩ : ∃ j, Hid (W.heap.size = j) := ⟨_, rfl⟩
  obtain ⟨wa, hwa⟩ : ∃ v, Hid (W.alloc (.cells #[.int .i64 w, .int .i64 h, .slice A n c] 30) = v) := ⟨_, rfl⟩
  have e0 : wa.cell? ⟨jb, 0, none⟩ = some (.int .i64 w) := by rw [← hwa.out, ← hjb.out, cell_of_row _ _ _ _ _ _ (heap_alloc_new W _)]; rfl
  have e1 : wa.cell? ⟨jb, 1, none⟩ = some (.int .i64 h) := by rw [← hwa.out, ← hjb.out, cell_of_row _ _ _ _ _ _ (heap_alloc_new W _)]; rfl
  have e2 : wa.cell? ⟨jb, 2, none⟩ = some (.slice A n c) := by rw [← hwa.out, ← hjb.out, cell_of_row _ _ _ _ _ _ (heap_alloc_new W _)]; rfl
  have ba : Below W.heap.size W wa := by rw [← hwa.out]; exact (Below.refl _ _).alloc (Nat.le_refl _) _
  have sa : wa.heap.size = W.heap.size + 1 := by rw [← hwa.out]; simp
  obtain ⟨jc, hjc⟩ : ∃ j, Hid (wa.heap.size = j) := ⟨_, rfl⟩
  have HJC : Hid (W.heap.size + 1 = jc) := by show _ = _; rw [← hjc.out, sa]
  obtain ⟨wb, hwb⟩ : ∃ v, Hid (wa.alloc (.cells #[.bool up, .int .i64 at'] 72) = v) := ⟨_, rfl⟩
  have c0 : wb.cell? ⟨jc, 0, none⟩ = some (.bool up) := by rw [← hwb.out, ← hjc.out, cell_of_row _ _ _ _ _ _ (heap_alloc_new wa _)]; rfl
  have c1 : wb.cell? ⟨jc, 1, none⟩ = some (.int .i64 at') := by rw [← hwb.out, ← hjc.out, cell_of_row _ _ _ _ _ _ (heap_alloc_new wa _)]; rfl
  have bb : Below wa.heap.size wa wb := by rw [← hwb.out]; exact (Below.refl _ _).alloc (Nat.le_refl _) _
  replace e0 := keepcell e0 bb
  replace e1 := keepcell e1 bb
  replace e2 := keepcell e2 bb
  have hBb := ba.trans (bb.mono ba.size)
  have hRb := (hR.below ba).below bb
  clear sa ba bb hR
  cases up
  · go_enter Try.func93, Try.ntmps93
    go_wp2_with (first | rw [hwa.out] | rw [hwb.out] | rw [hjc.out] | rw [HJC.out] | rw [hjb.out])
    refine (layoutS_any _ _ _ _ _ ps _ hRb hN).mono ?_
    rintro e w1 ⟨rfl, hb1⟩
    replace e0 := keepcell e0 hb1
    replace e1 := keepcell e1 hb1
    replace e2 := keepcell e2 hb1
    replace c0 := keepcell c0 hb1
    replace c1 := keepcell c1 hb1
    have hB1 := hBb.trans (hb1.mono hBb.size)
    have hs1 := hB1.size
    have hR1 := hRb.below hb1
    clear hb1 hRb hBb
    rcases hl : layoutOk w h ps with _ | _
    · have HN := Lib.hid (cut_no1 (c := ⟨false, at'⟩) hl)
      go_wp2
      go_ret
      exact ⟨ret_b HN.out, hB1⟩
    have HL := Lib.hid hl
    obtain ⟨hw, hh, hn12, hall, _, _⟩ := layout_parts hl
    rw [HLEN.out] at hn12
    have HALL := Lib.hid hall
    have hw12 := hw.2
    have hh12 := hh.2
    have hw1 := hw.1
    have hh1 := hh.1
    clear hl hall hw hh
    rcases hi : within at' 1 (h - 1) with _ | _
    · have HN := Lib.hid (cut_no2 (w := w) (h := h) (ps := ps) (c := ⟨false, at'⟩) hi)
      go_wp2_with (go_at_call 70; refine (l01In_any _ _ _ _).mono ?_; rintro e w' ⟨rfl, rfl⟩)
      go_ret
      exact ⟨ret_b HN.out, hB1⟩
    have HI := Lib.hid hi
    have hib := within_iff.1 hi
    have hi1 : 0 < at' := by omega
    have hi2 : at' < h := by omega
    clear hib
    go_wp2_with (go_at_call 70; refine (l01In_any _ _ _ _).mono ?_; rintro e w' ⟨rfl, rfl⟩)
    clear hi
    go_loopw [6] (fun i wr => ∃ k : Nat, k ≤ n ∧ i = .int .i64 (k : Int) ∧ Hid (((ps.take k).all fun p => !crossed ⟨false, at'⟩ p) = true) ∧ Below w1.heap.size w1 wr) (fun i _ => n - (intOf i).toNat)
    case atStart => exact ⟨0, Nat.zero_le _, rfl, by simp [Hid], Below.refl _ _⟩
    case round =>
      obtain ⟨k, hk, rfl, hcr, hB⟩ := hrel
      have hz := hB.size
      have d0 := keepcell c0 hB
      have d1 := keepcell c1 hB
      have g2 := keepcell e2 hB
      by_cases hlt : k < n
      · obtain ⟨b, off, x, rfl, hbW, hx, q0, q1, q2, q3, q4⟩ := hR1.patch hlt hB
        have HX := Lib.hid hx
        have hbd := patch_bd (all_at' HALL.out hx) hw12 hh12
        clear hx
        obtain ⟨x0, x1, x2, x3, x4⟩ := x
        simp only at q0 q1 q2 q3 q4 hbd
        have hkI : (k : Int) < (n : Int) := by omega
        obtain ⟨wp, hwp⟩ : ∃ v, Hid (wr.alloc (.cells #[.int .i64 x0, .int .i64 x1, .int .i64 x2, .int .i64 x3, .int .i64 x4] 44) = v) := ⟨_, rfl⟩
        obtain ⟨jp, hjp⟩ : ∃ j, Hid (wr.heap.size = j) := ⟨_, rfl⟩
        have p0 : wp.cell? ⟨jp, 0, none⟩ = some (.int .i64 x0) := by rw [← hwp.out, ← hjp.out, cell_of_row _ _ _ _ _ _ (heap_alloc_new wr _)]; rfl
        have p1 : wp.cell? ⟨jp, 1, none⟩ = some (.int .i64 x1) := by rw [← hwp.out, ← hjp.out, cell_of_row _ _ _ _ _ _ (heap_alloc_new wr _)]; rfl
        have p2 : wp.cell? ⟨jp, 2, none⟩ = some (.int .i64 x2) := by rw [← hwp.out, ← hjp.out, cell_of_row _ _ _ _ _ _ (heap_alloc_new wr _)]; rfl
        have p3 : wp.cell? ⟨jp, 3, none⟩ = some (.int .i64 x3) := by rw [← hwp.out, ← hjp.out, cell_of_row _ _ _ _ _ _ (heap_alloc_new wr _)]; rfl
        have p4 : wp.cell? ⟨jp, 4, none⟩ = some (.int .i64 x4) := by rw [← hwp.out, ← hjp.out, cell_of_row _ _ _ _ _ _ (heap_alloc_new wr _)]; rfl
        have bp : Below wr.heap.size wr wp := by rw [← hwp.out]; exact (Below.refl _ _).alloc (Nat.le_refl _) _
        have t0 := keepcell d0 bp
        have t1 := keepcell d1 bp
        have hBp := hB.trans (bp.mono hz)
        have hzp := hBp.size
        clear bp
        have hX : crossed ⟨false, at'⟩ ⟨x0, x1, x2, x3, x4⟩ = (decide (x1 < at') && decide (at' < x1 + x3)) := rfl
        by_cases y1 : x1 < at'
        · by_cases y2 : at' < x1 + x3
          · skip
            have HC := Lib.hid (show crossed ⟨false, at'⟩ ⟨x0, x1, x2, x3, x4⟩ = true by rw [hX]; simp only [decide_eq_true y1, decide_eq_true y2, Bool.and_self])
            clear hX
            go_wp2_with (first | (rw [hwp.out]; (try rw [hjp.out])))
            go_ret
            exact ⟨ret_b (cut_no3 HX.out HC.out), hB1.trans (hBp.mono hs1)⟩
          · skip
            have y3 := Int.not_lt.1 y2
            have HC := Lib.hid (show crossed ⟨false, at'⟩ ⟨x0, x1, x2, x3, x4⟩ = false by rw [hX]; simp only [decide_eq_true y1, decide_eq_false y2, Bool.and_false])
            clear hX
            go_wp2_with (first | (rw [hwp.out]; (try rw [hjp.out])))
            go_roundw
            case rel => exact ⟨k + 1, by omega, by go_num, all_take_succ (p := fun p => !crossed ⟨false, at'⟩ p) HX.out hcr.out (by rw [HC.out]; rfl), hBp⟩
            case measure => simp [intOf]; omega
        · have y3 := Int.not_lt.1 y1
          have HC := Lib.hid (show crossed ⟨false, at'⟩ ⟨x0, x1, x2, x3, x4⟩ = false by rw [hX]; simp only [decide_eq_false y1, Bool.false_and])
          clear hX
          go_wp2_with (first | (rw [hwp.out]; (try rw [hjp.out])))
          go_roundw
          case rel => exact ⟨k + 1, by omega, by go_num, all_take_succ (p := fun p => !crossed ⟨false, at'⟩ p) HX.out hcr.out (by rw [HC.out]; rfl), hBp⟩
          case measure => simp [intOf]; omega
      · obtain rfl : k = n := by omega
        have HN := Lib.hid (cut_end (c := ⟨false, at'⟩) HL.out HI.out (by have := hcr.out; rwa [List.take_of_length_le (Nat.le_of_eq HLEN.out)] at this))
        go_wp2
        go_ret
        exact ⟨ret_b HN.out, hB1.trans (hB.mono hs1)⟩
  · go_enter Try.func93, Try.ntmps93
    go_wp2_with (first | rw [hwa.out] | rw [hwb.out] | rw [hjc.out] | rw [HJC.out] | rw [hjb.out])
    refine (layoutS_any _ _ _ _ _ ps _ hRb hN).mono ?_
    rintro e w1 ⟨rfl, hb1⟩
    replace e0 := keepcell e0 hb1
    replace e1 := keepcell e1 hb1
    replace e2 := keepcell e2 hb1
    replace c0 := keepcell c0 hb1
    replace c1 := keepcell c1 hb1
    have hB1 := hBb.trans (hb1.mono hBb.size)
    have hs1 := hB1.size
    have hR1 := hRb.below hb1
    clear hb1 hRb hBb
    rcases hl : layoutOk w h ps with _ | _
    · have HN := Lib.hid (cut_no1 (c := ⟨true, at'⟩) hl)
      go_wp2
      go_ret
      exact ⟨ret_b HN.out, hB1⟩
    have HL := Lib.hid hl
    obtain ⟨hw, hh, hn12, hall, _, _⟩ := layout_parts hl
    rw [HLEN.out] at hn12
    have HALL := Lib.hid hall
    have hw12 := hw.2
    have hh12 := hh.2
    have hw1 := hw.1
    have hh1 := hh.1
    clear hl hall hw hh
    rcases hi : within at' 1 (w - 1) with _ | _
    · have HN := Lib.hid (cut_no2 (w := w) (h := h) (ps := ps) (c := ⟨true, at'⟩) hi)
      go_wp2_with (go_at_call 70; refine (l01In_any _ _ _ _).mono ?_; rintro e w' ⟨rfl, rfl⟩)
      go_ret
      exact ⟨ret_b HN.out, hB1⟩
    have HI := Lib.hid hi
    have hib := within_iff.1 hi
    have hi1 : 0 < at' := by omega
    have hi2 : at' < w := by omega
    clear hib
    go_wp2_with (go_at_call 70; refine (l01In_any _ _ _ _).mono ?_; rintro e w' ⟨rfl, rfl⟩)
    clear hi
    go_loopw [6] (fun i wr => ∃ k : Nat, k ≤ n ∧ i = .int .i64 (k : Int) ∧ Hid (((ps.take k).all fun p => !crossed ⟨true, at'⟩ p) = true) ∧ Below w1.heap.size w1 wr) (fun i _ => n - (intOf i).toNat)
    case atStart => exact ⟨0, Nat.zero_le _, rfl, by simp [Hid], Below.refl _ _⟩
    case round =>
      obtain ⟨k, hk, rfl, hcr, hB⟩ := hrel
      have hz := hB.size
      have d0 := keepcell c0 hB
      have d1 := keepcell c1 hB
      have g2 := keepcell e2 hB
      by_cases hlt : k < n
      · obtain ⟨b, off, x, rfl, hbW, hx, q0, q1, q2, q3, q4⟩ := hR1.patch hlt hB
        have HX := Lib.hid hx
        have hbd := patch_bd (all_at' HALL.out hx) hw12 hh12
        clear hx
        obtain ⟨x0, x1, x2, x3, x4⟩ := x
        simp only at q0 q1 q2 q3 q4 hbd
        have hkI : (k : Int) < (n : Int) := by omega
        obtain ⟨wp, hwp⟩ : ∃ v, Hid (wr.alloc (.cells #[.int .i64 x0, .int .i64 x1, .int .i64 x2, .int .i64 x3, .int .i64 x4] 44) = v) := ⟨_, rfl⟩
        obtain ⟨jp, hjp⟩ : ∃ j, Hid (wr.heap.size = j) := ⟨_, rfl⟩
        have p0 : wp.cell? ⟨jp, 0, none⟩ = some (.int .i64 x0) := by rw [← hwp.out, ← hjp.out, cell_of_row _ _ _ _ _ _ (heap_alloc_new wr _)]; rfl
        have p1 : wp.cell? ⟨jp, 1, none⟩ = some (.int .i64 x1) := by rw [← hwp.out, ← hjp.out, cell_of_row _ _ _ _ _ _ (heap_alloc_new wr _)]; rfl
        have p2 : wp.cell? ⟨jp, 2, none⟩ = some (.int .i64 x2) := by rw [← hwp.out, ← hjp.out, cell_of_row _ _ _ _ _ _ (heap_alloc_new wr _)]; rfl
        have p3 : wp.cell? ⟨jp, 3, none⟩ = some (.int .i64 x3) := by rw [← hwp.out, ← hjp.out, cell_of_row _ _ _ _ _ _ (heap_alloc_new wr _)]; rfl
        have p4 : wp.cell? ⟨jp, 4, none⟩ = some (.int .i64 x4) := by rw [← hwp.out, ← hjp.out, cell_of_row _ _ _ _ _ _ (heap_alloc_new wr _)]; rfl
        have bp : Below wr.heap.size wr wp := by rw [← hwp.out]; exact (Below.refl _ _).alloc (Nat.le_refl _) _
        have t0 := keepcell d0 bp
        have t1 := keepcell d1 bp
        have hBp := hB.trans (bp.mono hz)
        have hzp := hBp.size
        clear bp
        have hX : crossed ⟨true, at'⟩ ⟨x0, x1, x2, x3, x4⟩ = (decide (x0 < at') && decide (at' < x0 + x2)) := rfl
        by_cases y1 : x0 < at'
        · by_cases y2 : at' < x0 + x2
          · skip
            have HC := Lib.hid (show crossed ⟨true, at'⟩ ⟨x0, x1, x2, x3, x4⟩ = true by rw [hX]; simp only [decide_eq_true y1, decide_eq_true y2, Bool.and_self])
            clear hX
            go_wp2_with (first | (rw [hwp.out]; (try rw [hjp.out])))
            go_ret
            exact ⟨ret_b (cut_no3 HX.out HC.out), hB1.trans (hBp.mono hs1)⟩
          · skip
            have y3 := Int.not_lt.1 y2
            have HC := Lib.hid (show crossed ⟨true, at'⟩ ⟨x0, x1, x2, x3, x4⟩ = false by rw [hX]; simp only [decide_eq_true y1, decide_eq_false y2, Bool.and_false])
            clear hX
            go_wp2_with (first | (rw [hwp.out]; (try rw [hjp.out])))
            go_roundw
            case rel => exact ⟨k + 1, by omega, by go_num, all_take_succ (p := fun p => !crossed ⟨true, at'⟩ p) HX.out hcr.out (by rw [HC.out]; rfl), hBp⟩
            case measure => simp [intOf]; omega
        · have y3 := Int.not_lt.1 y1
          have HC := Lib.hid (show crossed ⟨true, at'⟩ ⟨x0, x1, x2, x3, x4⟩ = false by rw [hX]; simp only [decide_eq_false y1, Bool.false_and])
          clear hX
          go_wp2_with (first | (rw [hwp.out]; (try rw [hjp.out])))
          go_roundw
          case rel => exact ⟨k + 1, by omega, by go_num, all_take_succ (p := fun p => !crossed ⟨true, at'⟩ p) HX.out hcr.out (by rw [HC.out]; rfl), hBp⟩
          case measure => simp [intOf]; omega
      · obtain rfl : k = n := by omega
        have HN := Lib.hid (cut_end (c := ⟨true, at'⟩) HL.out HI.out (by have := hcr.out; rwa [List.take_of_length_le (Nat.le_of_eq HLEN.out)] at this))
        go_wp2
        go_ret
        exact ⟨ret_b HN.out, hB1.trans (hB.mono hs1)⟩

end Go.Proofs.Ytmjdgplkcocgmaa
