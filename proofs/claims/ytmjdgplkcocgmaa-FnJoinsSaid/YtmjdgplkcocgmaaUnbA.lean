/-
  Contracts over units: the rectangle of a unit.
-/
import Derived.Test.YtmjdgplkcocgmaaUniC
import Derived.Test.YtmjdgplkcocgmaaBoxB
set_option linter.unusedVariables false
set_option linter.unusedSimpArgs false
namespace Go.Proofs.Ytmjdgplkcocgmaa
open Go.RowKit

theorem ret_pb {p q : Patch} {a b : Bool} (h : p = q) (k : a = b) : Ending.returned (.tuple #[.agg #[.int .i64 p.X, .int .i64 p.Y, .int .i64 p.W, .int .i64 p.H, .int .i64 p.Color], .bool a]) = .returned (.tuple #[.agg #[.int .i64 q.X, .int .i64 q.Y, .int .i64 q.W, .int .i64 q.H, .int .i64 q.Color], .bool b]) := by rw [h, k]
theorem unitOk_no1 {w h : Int} {ps : List Patch} {l : List Join} {u : Int} (k : layoutOk w h ps = false) : unitOk w h ps l u = false := by unfold unitOk; rw [k]; rfl
theorem unitOk_of {w h : Int} {ps : List Patch} {l : List Join} {u : Int} (k : layoutOk w h ps = true) : unitOk w h ps l u = within u 0 (((sewn ps l).out.length : Int) - 1) := by unfold unitOk; rw [k]; rfl
theorem unit_zero {w h : Int} {ps : List Patch} {l : List Join} {u : Int} (k : unitOk w h ps l u = false) : zeroP = unitBox w h ps l u ∧ false = unitOk w h ps l u := ⟨(unit_no k).symm, k.symm⟩
theorem unit_at {w h : Int} {ps : List Patch} {l : List Join} {p : Nat} {y : Patch} (k : unitOk w h ps l (p : Int) = true) (hy : (sewn ps l).out[p]? = some y) : y = unitBox w h ps l (p : Int) ∧ true = unitOk w h ps l (p : Int) := by
  refine ⟨?_, k.symm⟩
  rw [unit_yes k]
  unfold pAt
  rw [Int.toNat_natCast, List.getD_eq_getElem?_getD, hy]
  rfl

theorem boxes_few {w h : Int} {ps : List Patch} {l : List Join} (k : layoutOk w h ps = true) : (sewn ps l).out.length ≤ ps.length + l.length := by
  obtain ⟨i, hi, hs, _⟩ := sewn_ok (l := l) (layout_parts k).2.2.2.1
  have := hs.len
  omega

set_option maxRecDepth 100000 in
set_option maxHeartbeats 2000000 in
theorem unitI_any (w h : Int) (A : Option Addr) (n c : Nat) (ps : List Patch) (B : Option Addr) (m d : Nat) (ls : List Join) (u : Int) (W : World) (hR : Rd W A n 5 ps patchC) (hN : n ≤ 1048576) (hJ : Rd W B m 3 ls joinC) (hm : m ≤ 1048576) :
    Calls Try.prog 39 #[.agg #[.int .i64 w, .int .i64 h, .slice A n c], .slice B m d, .int .i64 u] W fun e w' => e = .returned (.tuple #[.agg #[.int .i64 (unitBox w h ps ls u).X, .int .i64 (unitBox w h ps ls u).Y, .int .i64 (unitBox w h ps ls u).W, .int .i64 (unitBox w h ps ls u).H, .int .i64 (unitBox w h ps ls u).Color], .bool (unitOk w h ps ls u)]) ∧ Below W.heap.size W w' := by
  have HLEN := Lib.hid hR.len
  have HLJ := Lib.hid hJ.len
  obtain ⟨jb, hjb⟩ : ∃ j, Hid (j = W.heap.size) := ⟨_, rfl⟩
  obtain ⟨wa, hwa⟩ : ∃ v, Hid (W.alloc (.cells #[.int .i64 w, .int .i64 h, .slice A n c] 30) = v) := ⟨_, rfl⟩
  have e0 : wa.cell? ⟨jb, 0, none⟩ = some (.int .i64 w) := by rw [← hwa.out, hjb.out, cell_of_row _ _ _ _ _ _ (heap_alloc_new W _)]; rfl
  have e1 : wa.cell? ⟨jb, 1, none⟩ = some (.int .i64 h) := by rw [← hwa.out, hjb.out, cell_of_row _ _ _ _ _ _ (heap_alloc_new W _)]; rfl
  have e2 : wa.cell? ⟨jb, 2, none⟩ = some (.slice A n c) := by rw [← hwa.out, hjb.out, cell_of_row _ _ _ _ _ _ (heap_alloc_new W _)]; rfl
  have ba : Below W.heap.size W wa := by rw [← hwa.out]; exact (Below.refl _ _).alloc (Nat.le_refl _) _
  have sa : wa.heap.size = W.heap.size + 1 := by rw [← hwa.out]; simp
  obtain ⟨jz, hjz⟩ : ∃ j, Hid (wa.heap.size = j) := ⟨_, rfl⟩
  obtain ⟨wb, hwb⟩ : ∃ v, Hid (wa.alloc (.cells #[.int .i64 0, .int .i64 0, .int .i64 0, .int .i64 0, .int .i64 0] 44) = v) := ⟨_, rfl⟩
  have z0 : wb.cell? ⟨jz, 0, none⟩ = some (.int .i64 0) := by rw [← hwb.out, ← hjz.out, cell_of_row _ _ _ _ _ _ (heap_alloc_new wa _)]; rfl
  have z1 : wb.cell? ⟨jz, 1, none⟩ = some (.int .i64 0) := by rw [← hwb.out, ← hjz.out, cell_of_row _ _ _ _ _ _ (heap_alloc_new wa _)]; rfl
  have z2 : wb.cell? ⟨jz, 2, none⟩ = some (.int .i64 0) := by rw [← hwb.out, ← hjz.out, cell_of_row _ _ _ _ _ _ (heap_alloc_new wa _)]; rfl
  have z3 : wb.cell? ⟨jz, 3, none⟩ = some (.int .i64 0) := by rw [← hwb.out, ← hjz.out, cell_of_row _ _ _ _ _ _ (heap_alloc_new wa _)]; rfl
  have z4 : wb.cell? ⟨jz, 4, none⟩ = some (.int .i64 0) := by rw [← hwb.out, ← hjz.out, cell_of_row _ _ _ _ _ _ (heap_alloc_new wa _)]; rfl
  have f0 : wb.frozen? ⟨jz, 0, none⟩ = false := by rw [← hwb.out, ← hjz.out]; exact frozen_of_row _ _ _ _ _ (heap_alloc_new wa _)
  have f1 : wb.frozen? ⟨jz, 1, none⟩ = false := by rw [← hwb.out, ← hjz.out]; exact frozen_of_row _ _ _ _ _ (heap_alloc_new wa _)
  have f2 : wb.frozen? ⟨jz, 2, none⟩ = false := by rw [← hwb.out, ← hjz.out]; exact frozen_of_row _ _ _ _ _ (heap_alloc_new wa _)
  have f3 : wb.frozen? ⟨jz, 3, none⟩ = false := by rw [← hwb.out, ← hjz.out]; exact frozen_of_row _ _ _ _ _ (heap_alloc_new wa _)
  have f4 : wb.frozen? ⟨jz, 4, none⟩ = false := by rw [← hwb.out, ← hjz.out]; exact frozen_of_row _ _ _ _ _ (heap_alloc_new wa _)
  have bb : Below wa.heap.size wa wb := by rw [← hwb.out]; exact (Below.refl _ _).alloc (Nat.le_refl _) _
  have hjzW : W.heap.size ≤ jz := by rw [← hjz.out, sa]; omega
  have hjl : jz < wb.heap.size := by rw [← hjz.out, ← hwb.out]; simp
  replace e0 := keepcell e0 bb
  replace e1 := keepcell e1 bb
  replace e2 := keepcell e2 bb
  have hBb := ba.trans (bb.mono ba.size)
  have hRb := (hR.below ba).below bb
  have hJb := (hJ.below ba).below bb
  have HJZ : Hid (W.heap.size + 1 = jz) := by show _ = _; rw [← hjz.out, sa]
  clear sa ba bb hR hJ
  rcases hl : layoutOk w h ps with _ | _
  · have HZ := Lib.hid (unit_zero (u := u) (l := ls) (unitOk_no1 hl))
    go_enter Try.func39, Try.ntmps39
    go_wp2_with (first | rw [hwa.out] | rw [hwb.out] | rw [hjz.out] | rw [HJZ.out] | rw [← hjb.out])
    refine (layoutI_any _ _ _ _ _ ps _ hRb hN).mono ?_
    rintro e w1 ⟨rfl, hb1⟩
    rw [hl]
    replace e0 := keepcell e0 hb1
    replace e1 := keepcell e1 hb1
    replace e2 := keepcell e2 hb1
    replace z0 := keepcell z0 hb1
    replace z1 := keepcell z1 hb1
    replace z2 := keepcell z2 hb1
    replace z3 := keepcell z3 hb1
    replace z4 := keepcell z4 hb1
    replace f0 := (hb1.frozen (p := ⟨jz, 0, none⟩) hjl).trans f0
    replace f1 := (hb1.frozen (p := ⟨jz, 1, none⟩) hjl).trans f1
    replace f2 := (hb1.frozen (p := ⟨jz, 2, none⟩) hjl).trans f2
    replace f3 := (hb1.frozen (p := ⟨jz, 3, none⟩) hjl).trans f3
    replace f4 := (hb1.frozen (p := ⟨jz, 4, none⟩) hjl).trans f4
    replace hjl := Nat.lt_of_lt_of_le hjl hb1.size
    have hB1 := hBb.trans (hb1.mono hBb.size)
    have hs1 := hB1.size
    go_wp2_with fail
    refine bodyPost_ret (v := .tuple #[.agg #[.int .i64 0, .int .i64 0, .int .i64 0, .int .i64 0, .int .i64 0], .bool false]) (by simp [results, Try.results39, go_sem, World.cell?_setCell_same', World.cell?_setCell_other, z0, z1, z2, z3, z4]) rfl ⟨ret_pb HZ.out.1 HZ.out.2, ((((hB1.setCell (p := ⟨jz, 0, none⟩) hjzW _).setCell (p := ⟨jz, 1, none⟩) hjzW _).setCell (p := ⟨jz, 2, none⟩) hjzW _).setCell (p := ⟨jz, 3, none⟩) hjzW _).setCell (p := ⟨jz, 4, none⟩) hjzW _⟩
  have HL := Lib.hid hl
  go_enter Try.func39, Try.ntmps39
  go_wp2_with (first | rw [hwa.out] | rw [hwb.out] | rw [hjz.out] | rw [HJZ.out] | rw [← hjb.out])
  refine (layoutI_any _ _ _ _ _ ps _ hRb hN).mono ?_
  rintro e w1 ⟨rfl, hb1⟩
  rw [hl]
  replace e0 := keepcell e0 hb1
  replace e1 := keepcell e1 hb1
  replace e2 := keepcell e2 hb1
  replace z0 := keepcell z0 hb1
  replace z1 := keepcell z1 hb1
  replace z2 := keepcell z2 hb1
  replace z3 := keepcell z3 hb1
  replace z4 := keepcell z4 hb1
  replace f0 := (hb1.frozen (p := ⟨jz, 0, none⟩) hjl).trans f0
  replace f1 := (hb1.frozen (p := ⟨jz, 1, none⟩) hjl).trans f1
  replace f2 := (hb1.frozen (p := ⟨jz, 2, none⟩) hjl).trans f2
  replace f3 := (hb1.frozen (p := ⟨jz, 3, none⟩) hjl).trans f3
  replace f4 := (hb1.frozen (p := ⟨jz, 4, none⟩) hjl).trans f4
  replace hjl := Nat.lt_of_lt_of_le hjl hb1.size
  have hB1 := hBb.trans (hb1.mono hBb.size)
  have hR1 := hRb.below hb1
  have hJ1 := hJb.below hb1
  clear hb1 hRb hJb hBb hl
  go_wp2_with fail
  refine (unitsI_any _ _ _ _ _ ps _ _ _ ls _ hR1 HL.out hJ1 hm).mono ?_
  rintro e w2 ⟨A2, n2, c2, B2, m2, d2, rfl, hO2, _, hb2⟩
  replace e0 := keepcell e0 hb2
  replace e1 := keepcell e1 hb2
  replace e2 := keepcell e2 hb2
  replace z0 := keepcell z0 hb2
  replace z1 := keepcell z1 hb2
  replace z2 := keepcell z2 hb2
  replace z3 := keepcell z3 hb2
  replace z4 := keepcell z4 hb2
  replace f0 := (hb2.frozen (p := ⟨jz, 0, none⟩) hjl).trans f0
  replace f1 := (hb2.frozen (p := ⟨jz, 1, none⟩) hjl).trans f1
  replace f2 := (hb2.frozen (p := ⟨jz, 2, none⟩) hjl).trans f2
  replace f3 := (hb2.frozen (p := ⟨jz, 3, none⟩) hjl).trans f3
  replace f4 := (hb2.frozen (p := ⟨jz, 4, none⟩) hjl).trans f4
  replace hjl := Nat.lt_of_lt_of_le hjl hb2.size
  have hB2 := hB1.trans (hb2.mono hB1.size)
  have hs2 := hB2.size
  have HOL := Lib.hid hO2.len
  clear hb2 hB1 hR1 hJ1
  have HU := Lib.hid (unitOk_of (l := ls) (u := u) HL.out)
  rw [HOL.out] at HU
  have hn2 : n2 ≤ 2097152 := by have h1 := HOL.out; have h2 := boxes_few (l := ls) HL.out; have h3 := HLEN.out; have h4 := HLJ.out; omega
  rcases cu : within u 0 ((n2 : Int) - 1) with _ | _
  · have HZ := Lib.hid (unit_zero (HU.out.trans cu))
    clear hO2
    go_wp2_with (go_at_call 74; refine (within_any _ _ _ _).mono ?_; rintro e w' ⟨rfl, rfl⟩)
    refine bodyPost_ret (v := .tuple #[.agg #[.int .i64 0, .int .i64 0, .int .i64 0, .int .i64 0, .int .i64 0], .bool false]) (by simp [results, Try.results39, go_sem, World.cell?_setCell_same', World.cell?_setCell_other, z0, z1, z2, z3, z4]) rfl ⟨ret_pb HZ.out.1 HZ.out.2, ((((hB2.setCell (p := ⟨jz, 0, none⟩) hjzW _).setCell (p := ⟨jz, 1, none⟩) hjzW _).setCell (p := ⟨jz, 2, none⟩) hjzW _).setCell (p := ⟨jz, 3, none⟩) hjzW _).setCell (p := ⟨jz, 4, none⟩) hjzW _⟩
  have hub := within_iff.1 cu
  obtain ⟨p, rfl⟩ := Int.eq_ofNat_of_zero_le hub.1
  have hpn : p < n2 := by omega
  obtain ⟨b, off, y, rfl, hbW, hy, p0, p1, p2, p3, p4⟩ := hO2.patch hpn (Below.refl _ _)
  have HY := Lib.hid (unit_at (HU.out.trans cu) hy)
  have hpI : (p : Int) < (n2 : Int) := by omega
  clear hO2 hy hub
  go_wp2_with (go_at_call 74; refine (within_any _ _ _ _).mono ?_; rintro e w' ⟨rfl, rfl⟩)
  refine bodyPost_ret (v := .tuple #[.agg #[.int .i64 y.X, .int .i64 y.Y, .int .i64 y.W, .int .i64 y.H, .int .i64 y.Color], .bool true]) (by simp [results, Try.results39, go_sem, World.cell?_setCell_same', World.cell?_setCell_other, z0, z1, z2, z3, z4]) rfl ⟨ret_pb HY.out.1 HY.out.2, ((((hB2.setCell (p := ⟨jz, 0, none⟩) hjzW _).setCell (p := ⟨jz, 1, none⟩) hjzW _).setCell (p := ⟨jz, 2, none⟩) hjzW _).setCell (p := ⟨jz, 3, none⟩) hjzW _).setCell (p := ⟨jz, 4, none⟩) hjzW _⟩

set_option maxRecDepth 100000 in
set_option maxHeartbeats 2000000 in
theorem unitS_any (w h : Int) (A : Option Addr) (n c : Nat) (ps : List Patch) (B : Option Addr) (m d : Nat) (ls : List Join) (u : Int) (W : World) (hR : Rd W A n 5 ps patchC) (hN : n ≤ 1048576) (hJ : Rd W B m 3 ls joinC) (hm : m ≤ 1048576) :
    Calls Try.prog 38 #[.agg #[.int .i64 w, .int .i64 h, .slice A n c], .slice B m d, .int .i64 u] W fun e w' => e = .returned (.tuple #[.agg #[.int .i64 (unitBox w h ps ls u).X, .int .i64 (unitBox w h ps ls u).Y, .int .i64 (unitBox w h ps ls u).W, .int .i64 (unitBox w h ps ls u).H, .int .i64 (unitBox w h ps ls u).Color], .bool (unitOk w h ps ls u)]) ∧ Below W.heap.size W w' := by
  have HLEN := Lib.hid hR.len
  have HLJ := Lib.hid hJ.len
  obtain ⟨jb, hjb⟩ : ∃ j, Hid (j = W.heap.size) := ⟨_, rfl⟩
  obtain ⟨wa, hwa⟩ : ∃ v, Hid (W.alloc (.cells #[.int .i64 w, .int .i64 h, .slice A n c] 30) = v) := ⟨_, rfl⟩
  have e0 : wa.cell? ⟨jb, 0, none⟩ = some (.int .i64 w) := by rw [← hwa.out, hjb.out, cell_of_row _ _ _ _ _ _ (heap_alloc_new W _)]; rfl
  have e1 : wa.cell? ⟨jb, 1, none⟩ = some (.int .i64 h) := by rw [← hwa.out, hjb.out, cell_of_row _ _ _ _ _ _ (heap_alloc_new W _)]; rfl
  have e2 : wa.cell? ⟨jb, 2, none⟩ = some (.slice A n c) := by rw [← hwa.out, hjb.out, cell_of_row _ _ _ _ _ _ (heap_alloc_new W _)]; rfl
  have ba : Below W.heap.size W wa := by rw [← hwa.out]; exact (Below.refl _ _).alloc (Nat.le_refl _) _
  have sa : wa.heap.size = W.heap.size + 1 := by rw [← hwa.out]; simp
  obtain ⟨jz, hjz⟩ : ∃ j, Hid (wa.heap.size = j) := ⟨_, rfl⟩
  obtain ⟨wb, hwb⟩ : ∃ v, Hid (wa.alloc (.cells #[.int .i64 0, .int .i64 0, .int .i64 0, .int .i64 0, .int .i64 0] 44) = v) := ⟨_, rfl⟩
  have z0 : wb.cell? ⟨jz, 0, none⟩ = some (.int .i64 0) := by rw [← hwb.out, ← hjz.out, cell_of_row _ _ _ _ _ _ (heap_alloc_new wa _)]; rfl
  have z1 : wb.cell? ⟨jz, 1, none⟩ = some (.int .i64 0) := by rw [← hwb.out, ← hjz.out, cell_of_row _ _ _ _ _ _ (heap_alloc_new wa _)]; rfl
  have z2 : wb.cell? ⟨jz, 2, none⟩ = some (.int .i64 0) := by rw [← hwb.out, ← hjz.out, cell_of_row _ _ _ _ _ _ (heap_alloc_new wa _)]; rfl
  have z3 : wb.cell? ⟨jz, 3, none⟩ = some (.int .i64 0) := by rw [← hwb.out, ← hjz.out, cell_of_row _ _ _ _ _ _ (heap_alloc_new wa _)]; rfl
  have z4 : wb.cell? ⟨jz, 4, none⟩ = some (.int .i64 0) := by rw [← hwb.out, ← hjz.out, cell_of_row _ _ _ _ _ _ (heap_alloc_new wa _)]; rfl
  have f0 : wb.frozen? ⟨jz, 0, none⟩ = false := by rw [← hwb.out, ← hjz.out]; exact frozen_of_row _ _ _ _ _ (heap_alloc_new wa _)
  have f1 : wb.frozen? ⟨jz, 1, none⟩ = false := by rw [← hwb.out, ← hjz.out]; exact frozen_of_row _ _ _ _ _ (heap_alloc_new wa _)
  have f2 : wb.frozen? ⟨jz, 2, none⟩ = false := by rw [← hwb.out, ← hjz.out]; exact frozen_of_row _ _ _ _ _ (heap_alloc_new wa _)
  have f3 : wb.frozen? ⟨jz, 3, none⟩ = false := by rw [← hwb.out, ← hjz.out]; exact frozen_of_row _ _ _ _ _ (heap_alloc_new wa _)
  have f4 : wb.frozen? ⟨jz, 4, none⟩ = false := by rw [← hwb.out, ← hjz.out]; exact frozen_of_row _ _ _ _ _ (heap_alloc_new wa _)
  have bb : Below wa.heap.size wa wb := by rw [← hwb.out]; exact (Below.refl _ _).alloc (Nat.le_refl _) _
  have hjzW : W.heap.size ≤ jz := by rw [← hjz.out, sa]; omega
  have hjl : jz < wb.heap.size := by rw [← hjz.out, ← hwb.out]; simp
  replace e0 := keepcell e0 bb
  replace e1 := keepcell e1 bb
  replace e2 := keepcell e2 bb
  have hBb := ba.trans (bb.mono ba.size)
  have hRb := (hR.below ba).below bb
  have hJb := (hJ.below ba).below bb
  have HJZ : Hid (W.heap.size + 1 = jz) := by show _ = _; rw [← hjz.out, sa]
  clear sa ba bb hR hJ
  rcases hl : layoutOk w h ps with _ | _
  · have HZ := Lib.hid (unit_zero (u := u) (l := ls) (unitOk_no1 hl))
    go_enter Try.func38, Try.ntmps38
    go_wp2_with (first | rw [hwa.out] | rw [hwb.out] | rw [hjz.out] | rw [HJZ.out] | rw [← hjb.out])
    refine (layoutS_any _ _ _ _ _ ps _ hRb hN).mono ?_
    rintro e w1 ⟨rfl, hb1⟩
    rw [hl]
    replace e0 := keepcell e0 hb1
    replace e1 := keepcell e1 hb1
    replace e2 := keepcell e2 hb1
    replace z0 := keepcell z0 hb1
    replace z1 := keepcell z1 hb1
    replace z2 := keepcell z2 hb1
    replace z3 := keepcell z3 hb1
    replace z4 := keepcell z4 hb1
    replace f0 := (hb1.frozen (p := ⟨jz, 0, none⟩) hjl).trans f0
    replace f1 := (hb1.frozen (p := ⟨jz, 1, none⟩) hjl).trans f1
    replace f2 := (hb1.frozen (p := ⟨jz, 2, none⟩) hjl).trans f2
    replace f3 := (hb1.frozen (p := ⟨jz, 3, none⟩) hjl).trans f3
    replace f4 := (hb1.frozen (p := ⟨jz, 4, none⟩) hjl).trans f4
    replace hjl := Nat.lt_of_lt_of_le hjl hb1.size
    have hB1 := hBb.trans (hb1.mono hBb.size)
    have hs1 := hB1.size
    go_wp2_with fail
    refine bodyPost_ret (v := .tuple #[.agg #[.int .i64 0, .int .i64 0, .int .i64 0, .int .i64 0, .int .i64 0], .bool false]) (by simp [results, Try.results38, go_sem, World.cell?_setCell_same', World.cell?_setCell_other, z0, z1, z2, z3, z4]) rfl ⟨ret_pb HZ.out.1 HZ.out.2, ((((hB1.setCell (p := ⟨jz, 0, none⟩) hjzW _).setCell (p := ⟨jz, 1, none⟩) hjzW _).setCell (p := ⟨jz, 2, none⟩) hjzW _).setCell (p := ⟨jz, 3, none⟩) hjzW _).setCell (p := ⟨jz, 4, none⟩) hjzW _⟩
  have HL := Lib.hid hl
  go_enter Try.func38, Try.ntmps38
  go_wp2_with (first | rw [hwa.out] | rw [hwb.out] | rw [hjz.out] | rw [HJZ.out] | rw [← hjb.out])
  refine (layoutS_any _ _ _ _ _ ps _ hRb hN).mono ?_
  rintro e w1 ⟨rfl, hb1⟩
  rw [hl]
  replace e0 := keepcell e0 hb1
  replace e1 := keepcell e1 hb1
  replace e2 := keepcell e2 hb1
  replace z0 := keepcell z0 hb1
  replace z1 := keepcell z1 hb1
  replace z2 := keepcell z2 hb1
  replace z3 := keepcell z3 hb1
  replace z4 := keepcell z4 hb1
  replace f0 := (hb1.frozen (p := ⟨jz, 0, none⟩) hjl).trans f0
  replace f1 := (hb1.frozen (p := ⟨jz, 1, none⟩) hjl).trans f1
  replace f2 := (hb1.frozen (p := ⟨jz, 2, none⟩) hjl).trans f2
  replace f3 := (hb1.frozen (p := ⟨jz, 3, none⟩) hjl).trans f3
  replace f4 := (hb1.frozen (p := ⟨jz, 4, none⟩) hjl).trans f4
  replace hjl := Nat.lt_of_lt_of_le hjl hb1.size
  have hB1 := hBb.trans (hb1.mono hBb.size)
  have hR1 := hRb.below hb1
  have hJ1 := hJb.below hb1
  clear hb1 hRb hJb hBb hl
  go_wp2_with fail
  refine (boxes_any _ _ _ _ _ ps _ _ _ ls _ hR1 HL.out hJ1 hm).mono ?_
  rintro e w2 ⟨A2, n2, c2, rfl, hO2, hb2⟩
  replace e0 := keepcell e0 hb2
  replace e1 := keepcell e1 hb2
  replace e2 := keepcell e2 hb2
  replace z0 := keepcell z0 hb2
  replace z1 := keepcell z1 hb2
  replace z2 := keepcell z2 hb2
  replace z3 := keepcell z3 hb2
  replace z4 := keepcell z4 hb2
  replace f0 := (hb2.frozen (p := ⟨jz, 0, none⟩) hjl).trans f0
  replace f1 := (hb2.frozen (p := ⟨jz, 1, none⟩) hjl).trans f1
  replace f2 := (hb2.frozen (p := ⟨jz, 2, none⟩) hjl).trans f2
  replace f3 := (hb2.frozen (p := ⟨jz, 3, none⟩) hjl).trans f3
  replace f4 := (hb2.frozen (p := ⟨jz, 4, none⟩) hjl).trans f4
  replace hjl := Nat.lt_of_lt_of_le hjl hb2.size
  have hB2 := hB1.trans (hb2.mono hB1.size)
  have hs2 := hB2.size
  have HOL := Lib.hid hO2.len
  clear hb2 hB1 hR1 hJ1
  have HU := Lib.hid (unitOk_of (l := ls) (u := u) HL.out)
  rw [HOL.out] at HU
  have hn2 : n2 ≤ 2097152 := by have h1 := HOL.out; have h2 := boxes_few (l := ls) HL.out; have h3 := HLEN.out; have h4 := HLJ.out; omega
  rcases cu : within u 0 ((n2 : Int) - 1) with _ | _
  · have HZ := Lib.hid (unit_zero (HU.out.trans cu))
    clear hO2
    go_wp2_with (go_at_call 70; refine (l01In_any _ _ _ _).mono ?_; rintro e w' ⟨rfl, rfl⟩)
    refine bodyPost_ret (v := .tuple #[.agg #[.int .i64 0, .int .i64 0, .int .i64 0, .int .i64 0, .int .i64 0], .bool false]) (by simp [results, Try.results38, go_sem, World.cell?_setCell_same', World.cell?_setCell_other, z0, z1, z2, z3, z4]) rfl ⟨ret_pb HZ.out.1 HZ.out.2, ((((hB2.setCell (p := ⟨jz, 0, none⟩) hjzW _).setCell (p := ⟨jz, 1, none⟩) hjzW _).setCell (p := ⟨jz, 2, none⟩) hjzW _).setCell (p := ⟨jz, 3, none⟩) hjzW _).setCell (p := ⟨jz, 4, none⟩) hjzW _⟩
  have hub := within_iff.1 cu
  obtain ⟨p, rfl⟩ := Int.eq_ofNat_of_zero_le hub.1
  have hpn : p < n2 := by omega
  obtain ⟨b, off, y, rfl, hbW, hy, p0, p1, p2, p3, p4⟩ := hO2.patch hpn (Below.refl _ _)
  have HY := Lib.hid (unit_at (HU.out.trans cu) hy)
  have hpI : (p : Int) < (n2 : Int) := by omega
  clear hO2 hy hub
  go_wp2_with (go_at_call 70; refine (l01In_any _ _ _ _).mono ?_; rintro e w' ⟨rfl, rfl⟩)
  refine bodyPost_ret (v := .tuple #[.agg #[.int .i64 y.X, .int .i64 y.Y, .int .i64 y.W, .int .i64 y.H, .int .i64 y.Color], .bool true]) (by simp [results, Try.results38, go_sem, World.cell?_setCell_same', World.cell?_setCell_other, z0, z1, z2, z3, z4]) rfl ⟨ret_pb HY.out.1 HY.out.2, ((((hB2.setCell (p := ⟨jz, 0, none⟩) hjzW _).setCell (p := ⟨jz, 1, none⟩) hjzW _).setCell (p := ⟨jz, 2, none⟩) hjzW _).setCell (p := ⟨jz, 3, none⟩) hjzW _).setCell (p := ⟨jz, 4, none⟩) hjzW _⟩

end Go.Proofs.Ytmjdgplkcocgmaa
