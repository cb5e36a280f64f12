/-
  Contracts over cuts: whether a layout can be sewn, by the program; the number of seams.
-/
import Derived.Test.YtmjdgplkcocgmaaKnoI
set_option linter.unusedVariables false
set_option linter.unusedSimpArgs false
namespace Go.Proofs.Ytmjdgplkcocgmaa
open Go.RowKit

theorem sew_of {w h : Int} {ps : List Patch} (k : layoutOk w h ps = true) : (!(firstKnot ⟨w, h, ps⟩).isSome) = canSew ⟨w, h, ps⟩ := by
  unfold canSew
  rw [show okLay ⟨w, h, ps⟩ = true from k]
  cases firstKnot ⟨w, h, ps⟩ <;> rfl
theorem seams_no {w h : Int} {ps : List Patch} (k : canSew ⟨w, h, ps⟩ = false) : -1 = countSeams ⟨w, h, ps⟩ := by unfold countSeams; rw [k]; rfl
theorem count_yes {w h : Int} {ps : List Patch} (k : canSew ⟨w, h, ps⟩ = true) : (ps.length : Int) - 1 = countSeams ⟨w, h, ps⟩ := by unfold countSeams; rw [k]; rfl

theorem canSewS_any (w h : Int) (A : Option Addr) (n c : Nat) (ps : List Patch) (W : World) (hR : Rd W A n 5 ps patchC) (hN : n ≤ 1048576) :
    Calls Try.prog 54 #[.agg #[.int .i64 w, .int .i64 h, .slice A n c]] W fun e w' => e = .returned (.bool (canSew ⟨w, h, ps⟩)) ∧ Below W.heap.size W w' := canSewS_N ps.length w h A n c ps W (Nat.le_refl _) hR hN
theorem knotI_any (w h : Int) (A : Option Addr) (n c : Nat) (ps : List Patch) (W : World) (hR : Rd W A n 5 ps patchC) (hN : n ≤ 1048576) :
    Calls Try.prog 46 #[.agg #[.int .i64 w, .int .i64 h, .slice A n c]] W (KnotOut W (firstKnot ⟨w, h, ps⟩)) := knotI_N ps.length w h A n c ps W (Nat.le_refl _) hR hN

set_option maxRecDepth 100000 in
set_option maxHeartbeats 1000000 in
theorem canSewI_any (w h : Int) (A : Option Addr) (n c : Nat) (ps : List Patch) (W : World) (hR : Rd W A n 5 ps patchC) (hN : n ≤ 1048576) :
    Calls Try.prog 52 #[.agg #[.int .i64 w, .int .i64 h, .slice A n c]] W fun e w' => e = .returned (.bool (canSew ⟨w, h, ps⟩)) ∧ Below W.heap.size W w' := by
  obtain ⟨jb, hjb⟩ : ∃ j, Hid (W.heap.size = j) := ⟨_, rfl⟩
  obtain ⟨wa, hwa⟩ : ∃ v, Hid (W.alloc (.cells #[.int .i64 w, .int .i64 h, .slice A n c] 30) = v) := ⟨_, rfl⟩
  have e0 : wa.cell? ⟨jb, 0, none⟩ = some (.int .i64 w) := by rw [← hwa.out, ← hjb.out, cell_of_row _ _ _ _ _ _ (heap_alloc_new W _)]; rfl
  have e1 : wa.cell? ⟨jb, 1, none⟩ = some (.int .i64 h) := by rw [← hwa.out, ← hjb.out, cell_of_row _ _ _ _ _ _ (heap_alloc_new W _)]; rfl
  have e2 : wa.cell? ⟨jb, 2, none⟩ = some (.slice A n c) := by rw [← hwa.out, ← hjb.out, cell_of_row _ _ _ _ _ _ (heap_alloc_new W _)]; rfl
  have ba : Below W.heap.size W wa := by rw [← hwa.out]; exact (Below.refl _ _).alloc (Nat.le_refl _) _
  have hRa := hR.below ba
  go_enter Try.func52, Try.ntmps52
  go_wp2_with (first | rw [hwa.out] | rw [hjb.out])
  refine (knotI_any _ _ _ _ _ ps _ hRa hN).mono ?_
  rintro e w1 ⟨A1, n1, c1, rfl, hc1, hO1, hb1⟩
  replace e0 := keepcell e0 hb1
  replace e1 := keepcell e1 hb1
  replace e2 := keepcell e2 hb1
  have hB1 := ba.trans (hb1.mono ba.size)
  have hR1 := hRa.below hb1
  obtain ⟨vx, hvx⟩ : ∃ v, Hid (w1.alloc (.cells #[.int .i64 (kw (firstKnot ⟨w, h, ps⟩)), .int .i64 (kh (firstKnot ⟨w, h, ps⟩)), .slice A1 n1 c1] 30) = v) := ⟨_, rfl⟩
  have bx : Below w1.heap.size w1 vx := by rw [← hvx.out]; exact (Below.refl _ _).alloc (Nat.le_refl _) _
  have x0 := keepcell e0 bx
  have x1 := keepcell e1 bx
  have x2 := keepcell e2 bx
  have hRx := hR1.below bx
  have hBx := hB1.trans (bx.mono hB1.size)
  have hsx := hBx.size
  clear ba hRa hb1 hO1 hc1 hB1 hR1 bx e0 e1 e2
  go_wp2_with (rw [hvx.out])
  refine (layoutI_any _ _ _ _ _ ps _ hRx hN).mono ?_
  rintro e w2 ⟨rfl, hb2⟩
  have hB2 := hBx.trans (hb2.mono hsx)
  clear hb2 x0 x1 x2
  rcases hl : layoutOk w h ps with _ | _
  · have HN := Lib.hid (sew_no (l := ⟨w, h, ps⟩) hl)
    go_wp2
    go_ret
    exact ⟨ret_b HN.out, hB2⟩
  · have HY := Lib.hid (sew_of hl)
    rcases hf : (firstKnot ⟨w, h, ps⟩).isSome with _ | _
    · rw [hf] at HY
      go_wp2
      go_ret
      exact ⟨ret_b (by first | exact HY.out | (rw [hf]; exact HY.out)), hB2⟩
    · rw [hf] at HY
      go_wp2
      go_ret
      exact ⟨ret_b (by first | exact HY.out | (rw [hf]; exact HY.out)), hB2⟩

set_option maxRecDepth 100000 in
set_option maxHeartbeats 1000000 in
theorem seamsI_any (w h : Int) (A : Option Addr) (n c : Nat) (ps : List Patch) (W : World) (hR : Rd W A n 5 ps patchC) (hN : n ≤ 1048576) :
    Calls Try.prog 44 #[.agg #[.int .i64 w, .int .i64 h, .slice A n c]] W fun e w' => e = .returned (.int .i64 (countSeams ⟨w, h, ps⟩)) ∧ Below W.heap.size W w' := by
  have HLEN := Lib.hid hR.len
  obtain ⟨jb, hjb⟩ : ∃ j, Hid (W.heap.size = j) := ⟨_, rfl⟩
  obtain ⟨wa, hwa⟩ : ∃ v, Hid (W.alloc (.cells #[.int .i64 w, .int .i64 h, .slice A n c] 30) = v) := ⟨_, rfl⟩
  have e0 : wa.cell? ⟨jb, 0, none⟩ = some (.int .i64 w) := by rw [← hwa.out, ← hjb.out, cell_of_row _ _ _ _ _ _ (heap_alloc_new W _)]; rfl
  have e1 : wa.cell? ⟨jb, 1, none⟩ = some (.int .i64 h) := by rw [← hwa.out, ← hjb.out, cell_of_row _ _ _ _ _ _ (heap_alloc_new W _)]; rfl
  have e2 : wa.cell? ⟨jb, 2, none⟩ = some (.slice A n c) := by rw [← hwa.out, ← hjb.out, cell_of_row _ _ _ _ _ _ (heap_alloc_new W _)]; rfl
  have ba : Below W.heap.size W wa := by rw [← hwa.out]; exact (Below.refl _ _).alloc (Nat.le_refl _) _
  have hRa := hR.below ba
  go_enter Try.func44, Try.ntmps44
  go_wp2_with (first | rw [hwa.out] | rw [hjb.out])
  refine (canSewI_any _ _ _ _ _ ps _ hRa hN).mono ?_
  rintro e w1 ⟨rfl, hb1⟩
  replace e0 := keepcell e0 hb1
  replace e1 := keepcell e1 hb1
  replace e2 := keepcell e2 hb1
  have hB1 := ba.trans (hb1.mono ba.size)
  rcases hs : canSew ⟨w, h, ps⟩ with _ | _
  · have HN := Lib.hid (seams_no hs)
    go_wp2
    go_ret
    exact ⟨ret_i HN.out, hB1⟩
  · have HN := Lib.hid (count_yes hs)
    rw [HLEN.out] at HN
    go_wp2
    go_ret
    exact ⟨ret_i HN.out, hB1⟩

set_option maxRecDepth 100000 in
set_option maxHeartbeats 1000000 in
theorem seamsS_any (w h : Int) (A : Option Addr) (n c : Nat) (ps : List Patch) (W : World) (hR : Rd W A n 5 ps patchC) (hN : n ≤ 1048576) :
    Calls Try.prog 43 #[.agg #[.int .i64 w, .int .i64 h, .slice A n c]] W fun e w' => e = .returned (.int .i64 (countSeams ⟨w, h, ps⟩)) ∧ Below W.heap.size W w' := by
  have HLEN := Lib.hid hR.len
  obtain ⟨jb, hjb⟩ : ∃ j, Hid (W.heap.size = j) := ⟨_, rfl⟩
  obtain ⟨wa, hwa⟩ : ∃ v, Hid (W.alloc (.cells #[.int .i64 w, .int .i64 h, .slice A n c] 30) = v) := ⟨_, rfl⟩
  have e0 : wa.cell? ⟨jb, 0, none⟩ = some (.int .i64 w) := by rw [← hwa.out, ← hjb.out, cell_of_row _ _ _ _ _ _ (heap_alloc_new W _)]; rfl
  have e1 : wa.cell? ⟨jb, 1, none⟩ = some (.int .i64 h) := by rw [← hwa.out, ← hjb.out, cell_of_row _ _ _ _ _ _ (heap_alloc_new W _)]; rfl
  have e2 : wa.cell? ⟨jb, 2, none⟩ = some (.slice A n c) := by rw [← hwa.out, ← hjb.out, cell_of_row _ _ _ _ _ _ (heap_alloc_new W _)]; rfl
  have ba : Below W.heap.size W wa := by rw [← hwa.out]; exact (Below.refl _ _).alloc (Nat.le_refl _) _
  have hRa := hR.below ba
  go_enter Try.func43, Try.ntmps43
  go_wp2_with (first | rw [hwa.out] | rw [hjb.out])
  refine (canSewS_any _ _ _ _ _ ps _ hRa hN).mono ?_
  rintro e w1 ⟨rfl, hb1⟩
  replace e0 := keepcell e0 hb1
  replace e1 := keepcell e1 hb1
  replace e2 := keepcell e2 hb1
  have hB1 := ba.trans (hb1.mono ba.size)
  rcases hs : canSew ⟨w, h, ps⟩ with _ | _
  · have HN := Lib.hid (seams_no hs)
    go_wp2
    go_ret
    exact ⟨ret_i HN.out, hB1⟩
  · have HN := Lib.hid (count_yes hs)
    rw [HLEN.out] at HN
    go_wp2
    go_ret
    exact ⟨ret_i HN.out, hB1⟩

end Go.Proofs.Ytmjdgplkcocgmaa
