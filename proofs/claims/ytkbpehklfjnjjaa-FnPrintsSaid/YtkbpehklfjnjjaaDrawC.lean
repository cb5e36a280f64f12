/-
  Drawn cells and kinds: what is drawn is of no matter, only that it is there.
-/
import Derived.Test.YtkbpehklfjnjjaaDrawA
import Derived.Test.YtkbpehklfjnjjaaBlkA
import Derived.Test.YtkbpehklfjnjjaaAccSet
import Derived.Test.YtkbpehklfjnjjaaAccStep
import Derived.Test.YtkbpehklfjnjjaaFlatInt
set_option linter.unusedVariables false
set_option linter.unusedSimpArgs false
namespace Go.Proofs.Ytkbpehklfjnjjaa
open Go.RowKit

theorem row_set {w : World} {g o : Nat} {c : Array Value} {T : TypeId} (u : Value) (h : w.heap[g]? = some (.cells c T (0, 0))) : (w.setCell ⟨g, o, none⟩ u).heap[g]? = some (.cells (c.setIfInBounds o u) T (0, 0)) := by
  simp [World.setCell, Array.getElem?_modify, h]
theorem row_far {w : World} {b g o : Nat} (u : Value) (hne : g ≠ b) : (w.setCell ⟨b, o, none⟩ u).heap[g]? = w.heap[g]? := Below.heap_setCell w ⟨b, o, none⟩ u g hne
theorem grown_at (w : World) (g o : Nat) (u : Value) : w.grownBy (w.setCell ⟨g, o, none⟩ u) (some g) := only_setRow (World.grownBy.refl _ _) o [u]
theorem acc_low {α : Type} {w : World} {lo sz : Nat} {e : TypeId} {v : Value} {xs : List α} {cells : α → List Value} (h : Acc w lo e sz v xs cells) {b o : Nat} (hb : b < lo) (u : Value) : Acc (w.setCell ⟨b, o, none⟩ u) lo e sz v xs cells :=
  h.kept (grown_at w b o u) (fun g hg e => by injection e with e; have := (h.row hg).1; omega)
theorem set_size (w : World) (b o : Nat) (u : Value) : (w.setCell ⟨b, o, none⟩ u).heap.size = w.heap.size := by simp [World.setCell]
theorem only_cell' {lo hi : Nat} {w w' : World} {b : Nat} {o : Obj} (h : w.heap[b]? = some o) (ho : Only lo hi w w') (hd : b < lo ∨ hi ≤ b) : w'.heap[b]? = some o := (ho.block b (heap_lt h) hd).trans h
theorem Acc.only {α : Type} {w w' : World} {lo sz l u : Nat} {e : TypeId} {v : Value} {xs : List α} {cells : α → List Value} (h : Acc w lo e sz v xs cells) (ho : Only l u w w') (hd : u ≤ lo) : Acc w' lo e sz v xs cells := by
  obtain ⟨h1, h2⟩ := h
  refine ⟨h1, ?_⟩
  rcases h2 with h2 | ⟨g, cap, cur, hv, hg, hh, r⟩
  · exact .inl h2
  · exact .inr ⟨g, cap, cur, hv, hg, (ho.block g (heap_lt hh) (.inr (by omega))).trans hh, r⟩
theorem only_setNew {lo hi r o : Nat} {W w : World} (h : Only lo hi W w) (hr : W.heap.size ≤ r) (u : Value) : Only lo hi W (w.setCell ⟨r, o, none⟩ u) :=
  ⟨h.os, h.tape, h.output, by simpa [World.setCell] using h.size, fun k hk hd => (Below.heap_setCell w ⟨r, o, none⟩ u k (by show k ≠ r; omega)).trans (h.block k hk hd)⟩

/-- A number picked out of a list that lies in a block of its own. -/
theorem pickInt_any (W0 : World) (g : Nat) (A : Option Addr) (n : Nat) (xs : List UInt8) (L : List Int) (j : Nat) (T : TypeId) (W : World) (hC : Cur W0 W g A n xs) (hj : W.heap[j]? = some (.cells (L.map (Value.int .i64)).toArray T (0, 0))) (hjg : j ≠ g) (h0 : 0 < L.length) (hl : L.length ≤ 256) :
    Calls Try.prog 73 #[.pointer (some ⟨g, 0, none⟩), .slice (some ⟨j, 0, none⟩) L.length L.length] W (Drawn W0 W g A n xs (fun _ => True)) := by
  go_enter Try.func73, Try.ntmps73
  go_wp2_with fail
  refine (l01Below_any W0 g A n xs (L.length : Int) _ hC (by omega)).mono ?_
  rintro e w1 ⟨x, rfl, hx, hC1, ho1⟩
  have hx0 := hx.1
  have hx1 := hx.2.1 (by omega)
  obtain ⟨p, rfl⟩ := Int.eq_ofNat_of_zero_le hx0
  have hp : p < L.length := by omega
  have hj1 := only_cell' hj ho1 (by omega)
  have hc : w1.cell? ⟨j, p, none⟩ = some (.int .i64 L[p]) := by rw [cell_of_row _ _ _ _ _ _ hj1]; simp [hp]
  clear hx hx0 hj hj1
  go_wp2_with fail
  go_ret
  exact ⟨_, rfl, trivial, hC1, ho1⟩

def IsCell (W : World) (e : Ending) (w' : World) : Prop := ∃ s a b : Int, e = .returned (.agg #[.int .i64 s, .int .i64 a, .int .i64 b]) ∧ Below W.heap.size W w'
theorem wholeS_any (a : Int) (W : World) : Calls Try.prog 79 #[.int .i64 a] W (IsCell W) := by
  rcases h : within a 0 5 with _ | _
  · go_enter Try.func79, Try.ntmps79
    go_wp2_with (go_at_call 44; refine (l01In_any _ _ _ _).mono ?_; rintro e w' ⟨rfl, rfl⟩)
    exact bodyPost_ret (v := .agg #[.int .i64 0, .int .i64 0, .int .i64 0]) (by simp [results, Try.results79, go_sem]) rfl ⟨_, _, _, rfl, by (repeat (first | exact Below.refl _ _ | assumption | (refine Below.drew ?_) | (refine below_drewN ?_ _) | (refine Below.alloc ?_ (by first | exact Nat.le_refl _ | (simp; done) | (simp; omega) | omega) _) | (refine Below.setCell ?_ (by first | exact Nat.le_refl _ | (simp; done) | (simp; omega) | omega) _) | (refine Below.trans ?_ (Below.mono (by assumption) (by first | exact Nat.le_refl _ | (simp; done) | (simp; omega) | omega)))))⟩
  · go_enter Try.func79, Try.ntmps79
    go_wp2_with (go_at_call 44; refine (l01In_any _ _ _ _).mono ?_; rintro e w' ⟨rfl, rfl⟩)
    exact bodyPost_ret (v := .agg #[.int .i64 0, .int .i64 a, .int .i64 a]) (by simp [results, Try.results79, go_sem]) rfl ⟨_, _, _, rfl, by (repeat (first | exact Below.refl _ _ | assumption | (refine Below.drew ?_) | (refine below_drewN ?_ _) | (refine Below.alloc ?_ (by first | exact Nat.le_refl _ | (simp; done) | (simp; omega) | omega) _) | (refine Below.setCell ?_ (by first | exact Nat.le_refl _ | (simp; done) | (simp; omega) | omega) _) | (refine Below.trans ?_ (Below.mono (by assumption) (by first | exact Nat.le_refl _ | (simp; done) | (simp; omega) | omega)))))⟩

theorem box3 {w : World} {r : Nat} {u0 u1 u2 : Value} {T : TypeId} (h : w.heap[r]? = some (.cells #[u0, u1, u2] T (0, 0))) :
    w.cell? ⟨r, 0, none⟩ = some u0 ∧ w.cell? ⟨r, 1, none⟩ = some u1 ∧ w.cell? ⟨r, 2, none⟩ = some u2 ∧ w.frozen? ⟨r, 0, none⟩ = false ∧ w.frozen? ⟨r, 1, none⟩ = false ∧ w.frozen? ⟨r, 2, none⟩ = false :=
  ⟨by rw [cell_of_row _ _ _ _ _ _ h]; rfl, by rw [cell_of_row _ _ _ _ _ _ h]; rfl, by rw [cell_of_row _ _ _ _ _ _ h]; rfl, frozen_of_row _ _ _ _ _ h, frozen_of_row _ _ _ _ _ h, frozen_of_row _ _ _ _ _ h⟩

theorem splitC_any (s a b : Int) (W : World) : Calls Try.prog 80 #[.int .i64 s, .int .i64 a, .int .i64 b] W (IsCell W) := by
  obtain ⟨wa, hwa⟩ : ∃ v, Hid (W.alloc (.cells #[.int .i64 0, .int .i64 0, .int .i64 0] 77) = v) := ⟨_, rfl⟩
  obtain ⟨r, hr⟩ : ∃ j, Hid (W.heap.size = j) := ⟨_, rfl⟩
  have rr : wa.heap[r]? = some (.cells #[.int .i64 0, .int .i64 0, .int .i64 0] 77 (0, 0)) := by rw [← hwa.out, ← hr.out]; exact heap_alloc_new W _
  have ba : Below W.heap.size W wa := by rw [← hwa.out]; exact (Below.refl _ _).alloc (Nat.le_refl _) _
  have hrW : W.heap.size ≤ r := by have := hr.out; omega
  by_cases hab : a = b
  · subst hab
    have hq : (a == a) = true := by simp
    go_enter Try.func80, Try.ntmps80
    go_wp2_with (first | rw [hwa.out] | rw [hr.out])
    refine (wholeS_any a _).mono ?_
    rintro e w1 ⟨s', a', b', rfl, hb1⟩
    have q := (hb1.block r (heap_lt rr)).trans rr
    obtain ⟨z0, z1, z2, f0, f1, f2⟩ := box3 q
    have B1 := ba.trans (hb1.mono ba.size)
    have B3 := Lib.hid (((B1.setCell (p := ⟨r, 0, none⟩) hrW (.int .i64 s')).setCell (p := ⟨r, 1, none⟩) hrW (.int .i64 a')).setCell (p := ⟨r, 2, none⟩) hrW (.int .i64 b'))
    clear rr ba hb1 q B1 hrW
    go_wp2
    exact bodyPost_ret (v := .agg #[.int .i64 s', .int .i64 a', .int .i64 b']) (by simp [results, Try.results80, go_sem, World.cell?_setCell_same', World.cell?_setCell_other, z0, z1, z2]) rfl ⟨_, _, _, rfl, B3.out⟩
  · have hq : (a == b) = false := by simpa using hab
    obtain ⟨wb, hwb⟩ : ∃ v, Hid (wa.alloc (.cells #[.int .i64 s, .int .i64 a, .int .i64 b] 77) = v) := ⟨_, rfl⟩
    obtain ⟨j, hj⟩ : ∃ j, Hid (wa.heap.size = j) := ⟨_, rfl⟩
    have rj : wb.heap[j]? = some (.cells #[.int .i64 s, .int .i64 a, .int .i64 b] 77 (0, 0)) := by rw [← hwb.out, ← hj.out]; exact heap_alloc_new wa _
    have bb : Below wa.heap.size wa wb := by rw [← hwb.out]; exact (Below.refl _ _).alloc (Nat.le_refl _) _
    have rr1 := (bb.block r (heap_lt rr)).trans rr
    have B1 := ba.trans (bb.mono ba.size)
    go_enter Try.func80, Try.ntmps80
    go_wp2_with fail
    rw [hwa.out, hr.out]
    have hj1 : r + 1 = j := by have h1 := hj.out; have h2 := hr.out; have h3 : wa.heap.size = W.heap.size + 1 := by rw [← hwa.out]; simp
                               omega
    rw [hwb.out]
    (try rw [hj1])
    refine (cellOkS_any s a b _).mono ?_
    rintro e w1 ⟨rfl, hb1⟩
    have q := (hb1.block r (heap_lt rr1)).trans rr1
    have p := (hb1.block j (heap_lt rj)).trans rj
    obtain ⟨z0, z1, z2, f0, f1, f2⟩ := box3 q
    obtain ⟨y0, y1, y2, _, _, _⟩ := box3 p
    have B2 := B1.trans (hb1.mono B1.size)
    have B3 := Lib.hid (((B2.setCell (p := ⟨r, 0, none⟩) hrW (.int .i64 0)).setCell (p := ⟨r, 1, none⟩) hrW (.int .i64 0)).setCell (p := ⟨r, 2, none⟩) hrW (.int .i64 0))
    have B4 := Lib.hid (((B2.setCell (p := ⟨r, 0, none⟩) hrW (.int .i64 s)).setCell (p := ⟨r, 1, none⟩) hrW (.int .i64 a)).setCell (p := ⟨r, 2, none⟩) hrW (.int .i64 b))
    clear rr ba hb1 q p B1 B2 hrW rj bb rr1 hj1
    rcases cellOk ⟨s, a, b⟩ with _ | _
    · go_wp2
      exact bodyPost_ret (v := .agg #[.int .i64 0, .int .i64 0, .int .i64 0]) (by simp [results, Try.results80, go_sem, World.cell?_setCell_same', World.cell?_setCell_other, z0, z1, z2]) rfl ⟨_, _, _, rfl, B3.out⟩
    · go_wp2
      exact bodyPost_ret (v := .agg #[.int .i64 s, .int .i64 a, .int .i64 b]) (by simp [results, Try.results80, go_sem, World.cell?_setCell_same', World.cell?_setCell_other, z0, z1, z2]) rfl ⟨_, _, _, rfl, B4.out⟩

def CellOut (W0 W : World) (g : Nat) (A : Option Addr) (n : Nat) (xs : List UInt8) (e : Ending) (w' : World) : Prop :=
  ∃ s a b : Int, e = .returned (.agg #[.int .i64 s, .int .i64 a, .int .i64 b]) ∧ Cur W0 w' g A n xs ∧ Only g (g + 1) W w'

theorem l02Cell_any (W0 : World) (g : Nat) (A : Option Addr) (n : Nat) (xs : List UInt8) (W : World) (hC : Cur W0 W g A n xs) :
    Calls Try.prog 78 #[.pointer (some ⟨g, 0, none⟩)] W (CellOut W0 W g A n xs) := by
  have hgW := hC.lt
  have hW0 := hC.base.size
  obtain ⟨wa, hwa⟩ : ∃ v, Hid (W.alloc (.cells #[.int .i64 0, .int .i64 0, .int .i64 0] 77) = v) := ⟨_, rfl⟩
  obtain ⟨r, hr⟩ : ∃ j, Hid (W.heap.size = j) := ⟨_, rfl⟩
  have rr : wa.heap[r]? = some (.cells #[.int .i64 0, .int .i64 0, .int .i64 0] 77 (0, 0)) := by rw [← hwa.out, ← hr.out]; exact heap_alloc_new W _
  have ba : Below W.heap.size W wa := by rw [← hwa.out]; exact (Below.refl _ _).alloc (Nat.le_refl _) _
  have hrW : W.heap.size ≤ r := by have := hr.out; omega
  have hCa := hC.below ba
  have hoa : Only g (g + 1) W wa := Only.of_below ba
  go_enter Try.func78, Try.ntmps78
  go_wp2_with (first | rw [hwa.out] | rw [hr.out])
  refine (l01Below_any W0 g A n xs 3 _ hCa (by omega)).mono ?_
  rintro e w1 ⟨x1, rfl, hx1, hC1, ho1⟩
  have r1 := only_cell' rr ho1 (by omega)
  have o1 := hoa.trans ho1
  clear hx1 hCa hoa rr ba ho1
  go_wp2_with fail
  refine (l01Below_any W0 g A n xs 3 _ hC1 (by omega)).mono ?_
  rintro e w2 ⟨x2, rfl, hx2, hC2, ho2⟩
  have r2 := only_cell' r1 ho2 (by omega)
  have o2 := o1.trans ho2
  clear hx2 hC1 ho2 r1 o1
  go_wp2_with fail
  refine (l01Below_any W0 g A n xs 3 _ hC2 (by omega)).mono ?_
  rintro e w3 ⟨x3, rfl, hx3, hC3, ho3⟩
  have r3 := only_cell' r2 ho3 (by omega)
  have o3 := o2.trans ho3
  clear hx3 hC2 ho3 r2 o2
  go_wp2_with fail
  refine (splitC_any x1 x2 x3 _).mono ?_
  rintro e w4 ⟨s', a', b', rfl, hb4⟩
  have q := (hb4.block r (heap_lt r3)).trans r3
  obtain ⟨z0, z1, z2, f0, f1, f2⟩ := box3 q
  have hC4 := hC3.below hb4
  have o4 := o3.trans (Only.of_below hb4)
  have cn : ∀ k, some r = some k → W0.heap.size ≤ k := fun k e => by have := Option.some.inj e; omega
  have cg : (some r : Option Nat) ≠ some g := fun e => by have := Option.some.inj e; omega
  have HC := Lib.hid (((hC4.grow (grown_at _ r 0 (.int .i64 s')) cg cn).grow (grown_at _ r 1 (.int .i64 a')) cg cn).grow (grown_at _ r 2 (.int .i64 b')) cg cn)
  have HO := Lib.hid (only_setNew (only_setNew (only_setNew o4 hrW (o := 0) (.int .i64 s')) hrW (o := 1) (.int .i64 a')) hrW (o := 2) (.int .i64 b'))
  clear r3 o3 hC3 hb4 q hC4 o4 cn cg hrW hC
  go_wp2
  exact bodyPost_ret (v := .agg #[.int .i64 s', .int .i64 a', .int .i64 b']) (by simp [results, Try.results78, go_sem, World.cell?_setCell_same', World.cell?_setCell_other, z0, z1, z2]) rfl ⟨_, _, _, rfl, HC.out, HO.out⟩

/-- A drawn cell, perhaps with one number turned. -/
theorem l02Any_any (W0 : World) (g : Nat) (A : Option Addr) (n : Nat) (xs : List UInt8) (W : World) (hC : Cur W0 W g A n xs) :
    Calls Try.prog 74 #[.pointer (some ⟨g, 0, none⟩)] W (CellOut W0 W g A n xs) := by
  have hgW := hC.lt
  have hW0 := hC.base.size
  obtain ⟨wa, hwa⟩ : ∃ v, Hid (W.alloc (.cells #[.int .i64 0, .int .i64 0, .int .i64 0] 77) = v) := ⟨_, rfl⟩
  obtain ⟨r, hr⟩ : ∃ j, Hid (W.heap.size = j) := ⟨_, rfl⟩
  have rr : wa.heap[r]? = some (.cells #[.int .i64 0, .int .i64 0, .int .i64 0] 77 (0, 0)) := by rw [← hwa.out, ← hr.out]; exact heap_alloc_new W _
  have ba : Below W.heap.size W wa := by rw [← hwa.out]; exact (Below.refl _ _).alloc (Nat.le_refl _) _
  have hrW : W.heap.size ≤ r := by have := hr.out; omega
  have hgr : g < r := by have := hr.out; omega
  have hCa := hC.below ba
  have hoa : Only g (g + 1) W wa := Only.of_below ba
  go_enter Try.func74, Try.ntmps74
  go_wp2_with (first | rw [hwa.out] | rw [hr.out])
  refine (l02Cell_any W0 g A n xs _ hCa).mono ?_
  rintro e w1 ⟨s0, a0, b0, rfl, hC1, ho1⟩
  have r1 := only_cell' rr ho1 (by omega)
  have o1 := hoa.trans ho1
  obtain ⟨wb, hwb⟩ : ∃ v, Hid (w1.alloc (.cells #[.int .i64 s0, .int .i64 a0, .int .i64 b0] 77) = v) := ⟨_, rfl⟩
  obtain ⟨j, hj⟩ : ∃ j, Hid (w1.heap.size = j) := ⟨_, rfl⟩
  have rj : wb.heap[j]? = some (.cells #[.int .i64 s0, .int .i64 a0, .int .i64 b0] 77 (0, 0)) := by rw [← hwb.out, ← hj.out]; exact heap_alloc_new w1 _
  have bb : Below w1.heap.size w1 wb := by rw [← hwb.out]; exact (Below.refl _ _).alloc (Nat.le_refl _) _
  have hrj : r < j := by have h1 := hj.out; have h2 := heap_lt r1; omega
  have r2 := (bb.block r (heap_lt r1)).trans r1
  have o2 := o1.trans (Only.of_below bb)
  have hC2 := hC1.below bb
  clear rr ba hCa hoa ho1 r1 o1 hC1 bb hC
  go_wp2_with fail
  rw [hwb.out, hj.out]
  refine (l01Below_any W0 g A n xs 12 _ hC2 (by omega)).mono ?_
  rintro e w3 ⟨x, rfl, hx, hC3, ho3⟩
  have r3 := only_cell' r2 ho3 (by omega)
  have j3 := only_cell' rj ho3 (by omega)
  have o3 := o2.trans ho3
  clear hx hC2 ho3 r2 o2 rj
  have hsz : j < w3.heap.size := heap_lt j3
  by_cases h0 : x = 0
  · subst h0
    obtain ⟨wl, hwl⟩ : ∃ v, Hid (w3.alloc (.cells #[.int .i64 (-1), .int .i64 0, .int .i64 2, .int .i64 3] 3) = v) := ⟨_, rfl⟩
    obtain ⟨i, hi⟩ : ∃ j, Hid (w3.heap.size = j) := ⟨_, rfl⟩
    have ri : wl.heap[i]? = some (.cells #[.int .i64 (-1), .int .i64 0, .int .i64 2, .int .i64 3] 3 (0, 0)) := by rw [← hwl.out, ← hi.out]; exact heap_alloc_new w3 _
    have bl : Below w3.heap.size w3 wl := by rw [← hwl.out]; exact (Below.refl _ _).alloc (Nat.le_refl _) _
    have hig : g < i := by have := hi.out; omega
    have r4 := (bl.block r (heap_lt r3)).trans r3
    have j4 := (bl.block j (heap_lt j3)).trans j3
    have o4 := o3.trans (Only.of_below bl)
    have hC4 := hC3.below bl
    clear r3 j3 o3 hC3 bl
    go_wp2_with (first | rw [hwl.out] | rw [hi.out])
    refine (pickInt_any W0 g A n xs [(-1), 0, 2, 3] i _ _ hC4 ri (by omega) (by decide) (by decide)).mono ?_
    rintro e w5 ⟨y, rfl, _, hC5, ho5⟩
    have r5 := only_cell' r4 ho5 (by omega)
    have j5 := only_cell' j4 ho5 (by omega)
    have o5 := o4.trans ho5
    obtain ⟨wt, hwt⟩ : ∃ v, Hid (w5.setCell ⟨j, 0, none⟩ (.int .i64 y) = v) := ⟨_, rfl⟩
    have jt : wt.heap[j]? = some (.cells #[.int .i64 y, .int .i64 a0, .int .i64 b0] 77 (0, 0)) := by rw [← hwt.out]; exact row_set _ j5
    have rt : wt.heap[r]? = some (.cells #[.int .i64 0, .int .i64 0, .int .i64 0] 77 (0, 0)) := by rw [← hwt.out, row_far _ (by omega)]; exact r5
    have hjW : W.heap.size ≤ j := by omega
    have ot : Only g (g + 1) W wt := by rw [← hwt.out]; exact only_setNew o5 hjW _
    have hCt : Cur W0 wt g A n xs := by rw [← hwt.out]; exact hC5.grow (grown_at _ j _ _) (fun e => by have := Option.some.inj e; omega) (fun k e => by have := Option.some.inj e; omega)
    obtain ⟨x0, x1, x2, g0, g1, g2⟩ := box3 j5
    obtain ⟨y0, y1, y2, _, _, _⟩ := box3 jt
    obtain ⟨z0, z1, z2, f0, f1, f2⟩ := box3 rt
    have cn : ∀ k, some r = some k → W0.heap.size ≤ k := fun k e => by have := Option.some.inj e; omega
    have cg : (some r : Option Nat) ≠ some g := fun e => by have := Option.some.inj e; omega
    have HC := Lib.hid (((hCt.grow (grown_at _ r 0 (.int .i64 y)) cg cn).grow (grown_at _ r 1 (.int .i64 a0)) cg cn).grow (grown_at _ r 2 (.int .i64 b0)) cg cn)
    have HO := Lib.hid (only_setNew (only_setNew (only_setNew ot hrW (o := 0) (.int .i64 y)) hrW (o := 1) (.int .i64 a0)) hrW (o := 2) (.int .i64 b0))
    clear r4 j4 o4 hC4 hC5 ho5 r5 j5 o5 ri jt rt ot hCt hjW cn cg hrW hgr hrj hsz hig
    go_wp2_with (rw [hwt.out])
    exact bodyPost_ret (v := .agg #[.int .i64 y, .int .i64 a0, .int .i64 b0]) (by simp [results, Try.results74, go_sem, World.cell?_setCell_same', World.cell?_setCell_other, z0, z1, z2]) rfl ⟨_, _, _, rfl, HC.out, HO.out⟩
  by_cases h1 : x = 1
  · subst h1
    obtain ⟨wl, hwl⟩ : ∃ v, Hid (w3.alloc (.cells #[.int .i64 (-1), .int .i64 0, .int .i64 5, .int .i64 6] 3) = v) := ⟨_, rfl⟩
    obtain ⟨i, hi⟩ : ∃ j, Hid (w3.heap.size = j) := ⟨_, rfl⟩
    have ri : wl.heap[i]? = some (.cells #[.int .i64 (-1), .int .i64 0, .int .i64 5, .int .i64 6] 3 (0, 0)) := by rw [← hwl.out, ← hi.out]; exact heap_alloc_new w3 _
    have bl : Below w3.heap.size w3 wl := by rw [← hwl.out]; exact (Below.refl _ _).alloc (Nat.le_refl _) _
    have hig : g < i := by have := hi.out; omega
    have r4 := (bl.block r (heap_lt r3)).trans r3
    have j4 := (bl.block j (heap_lt j3)).trans j3
    have o4 := o3.trans (Only.of_below bl)
    have hC4 := hC3.below bl
    clear r3 j3 o3 hC3 bl
    go_wp2_with (first | rw [hwl.out] | rw [hi.out])
    refine (pickInt_any W0 g A n xs [(-1), 0, 5, 6] i _ _ hC4 ri (by omega) (by decide) (by decide)).mono ?_
    rintro e w5 ⟨y, rfl, _, hC5, ho5⟩
    have r5 := only_cell' r4 ho5 (by omega)
    have j5 := only_cell' j4 ho5 (by omega)
    have o5 := o4.trans ho5
    obtain ⟨wt, hwt⟩ : ∃ v, Hid (w5.setCell ⟨j, 1, none⟩ (.int .i64 y) = v) := ⟨_, rfl⟩
    have jt : wt.heap[j]? = some (.cells #[.int .i64 s0, .int .i64 y, .int .i64 b0] 77 (0, 0)) := by rw [← hwt.out]; exact row_set _ j5
    have rt : wt.heap[r]? = some (.cells #[.int .i64 0, .int .i64 0, .int .i64 0] 77 (0, 0)) := by rw [← hwt.out, row_far _ (by omega)]; exact r5
    have hjW : W.heap.size ≤ j := by omega
    have ot : Only g (g + 1) W wt := by rw [← hwt.out]; exact only_setNew o5 hjW _
    have hCt : Cur W0 wt g A n xs := by rw [← hwt.out]; exact hC5.grow (grown_at _ j _ _) (fun e => by have := Option.some.inj e; omega) (fun k e => by have := Option.some.inj e; omega)
    obtain ⟨x0, x1, x2, g0, g1, g2⟩ := box3 j5
    obtain ⟨y0, y1, y2, _, _, _⟩ := box3 jt
    obtain ⟨z0, z1, z2, f0, f1, f2⟩ := box3 rt
    have cn : ∀ k, some r = some k → W0.heap.size ≤ k := fun k e => by have := Option.some.inj e; omega
    have cg : (some r : Option Nat) ≠ some g := fun e => by have := Option.some.inj e; omega
    have HC := Lib.hid (((hCt.grow (grown_at _ r 0 (.int .i64 s0)) cg cn).grow (grown_at _ r 1 (.int .i64 y)) cg cn).grow (grown_at _ r 2 (.int .i64 b0)) cg cn)
    have HO := Lib.hid (only_setNew (only_setNew (only_setNew ot hrW (o := 0) (.int .i64 s0)) hrW (o := 1) (.int .i64 y)) hrW (o := 2) (.int .i64 b0))
    clear r4 j4 o4 hC4 hC5 ho5 r5 j5 o5 ri jt rt ot hCt hjW cn cg hrW hgr hrj hsz hig
    go_wp2_with (rw [hwt.out])
    exact bodyPost_ret (v := .agg #[.int .i64 s0, .int .i64 y, .int .i64 b0]) (by simp [results, Try.results74, go_sem, World.cell?_setCell_same', World.cell?_setCell_other, z0, z1, z2]) rfl ⟨_, _, _, rfl, HC.out, HO.out⟩
  by_cases h2 : x = 2
  · subst h2
    obtain ⟨wl, hwl⟩ : ∃ v, Hid (w3.alloc (.cells #[.int .i64 (-1), .int .i64 0, .int .i64 5, .int .i64 6] 3) = v) := ⟨_, rfl⟩
    obtain ⟨i, hi⟩ : ∃ j, Hid (w3.heap.size = j) := ⟨_, rfl⟩
    have ri : wl.heap[i]? = some (.cells #[.int .i64 (-1), .int .i64 0, .int .i64 5, .int .i64 6] 3 (0, 0)) := by rw [← hwl.out, ← hi.out]; exact heap_alloc_new w3 _
    have bl : Below w3.heap.size w3 wl := by rw [← hwl.out]; exact (Below.refl _ _).alloc (Nat.le_refl _) _
    have hig : g < i := by have := hi.out; omega
    have r4 := (bl.block r (heap_lt r3)).trans r3
    have j4 := (bl.block j (heap_lt j3)).trans j3
    have o4 := o3.trans (Only.of_below bl)
    have hC4 := hC3.below bl
    clear r3 j3 o3 hC3 bl
    go_wp2_with (first | rw [hwl.out] | rw [hi.out])
    refine (pickInt_any W0 g A n xs [(-1), 0, 5, 6] i _ _ hC4 ri (by omega) (by decide) (by decide)).mono ?_
    rintro e w5 ⟨y, rfl, _, hC5, ho5⟩
    have r5 := only_cell' r4 ho5 (by omega)
    have j5 := only_cell' j4 ho5 (by omega)
    have o5 := o4.trans ho5
    obtain ⟨wt, hwt⟩ : ∃ v, Hid (w5.setCell ⟨j, 2, none⟩ (.int .i64 y) = v) := ⟨_, rfl⟩
    have jt : wt.heap[j]? = some (.cells #[.int .i64 s0, .int .i64 a0, .int .i64 y] 77 (0, 0)) := by rw [← hwt.out]; exact row_set _ j5
    have rt : wt.heap[r]? = some (.cells #[.int .i64 0, .int .i64 0, .int .i64 0] 77 (0, 0)) := by rw [← hwt.out, row_far _ (by omega)]; exact r5
    have hjW : W.heap.size ≤ j := by omega
    have ot : Only g (g + 1) W wt := by rw [← hwt.out]; exact only_setNew o5 hjW _
    have hCt : Cur W0 wt g A n xs := by rw [← hwt.out]; exact hC5.grow (grown_at _ j _ _) (fun e => by have := Option.some.inj e; omega) (fun k e => by have := Option.some.inj e; omega)
    obtain ⟨x0, x1, x2, g0, g1, g2⟩ := box3 j5
    obtain ⟨y0, y1, y2, _, _, _⟩ := box3 jt
    obtain ⟨z0, z1, z2, f0, f1, f2⟩ := box3 rt
    have cn : ∀ k, some r = some k → W0.heap.size ≤ k := fun k e => by have := Option.some.inj e; omega
    have cg : (some r : Option Nat) ≠ some g := fun e => by have := Option.some.inj e; omega
    have HC := Lib.hid (((hCt.grow (grown_at _ r 0 (.int .i64 s0)) cg cn).grow (grown_at _ r 1 (.int .i64 a0)) cg cn).grow (grown_at _ r 2 (.int .i64 y)) cg cn)
    have HO := Lib.hid (only_setNew (only_setNew (only_setNew ot hrW (o := 0) (.int .i64 s0)) hrW (o := 1) (.int .i64 a0)) hrW (o := 2) (.int .i64 y))
    clear r4 j4 o4 hC4 hC5 ho5 r5 j5 o5 ri jt rt ot hCt hjW cn cg hrW hgr hrj hsz hig
    go_wp2_with (rw [hwt.out])
    exact bodyPost_ret (v := .agg #[.int .i64 s0, .int .i64 a0, .int .i64 y]) (by simp [results, Try.results74, go_sem, World.cell?_setCell_same', World.cell?_setCell_other, z0, z1, z2]) rfl ⟨_, _, _, rfl, HC.out, HO.out⟩
  have e0 : (x == 0) = false := by simpa using h0
  have e1 : (x == 1) = false := by simpa using h1
  have e2 : (x == 2) = false := by simpa using h2
  obtain ⟨y0, y1, y2, _, _, _⟩ := box3 j3
  obtain ⟨z0, z1, z2, f0, f1, f2⟩ := box3 r3
  have cn : ∀ k, some r = some k → W0.heap.size ≤ k := fun k e => by have := Option.some.inj e; omega
  have cg : (some r : Option Nat) ≠ some g := fun e => by have := Option.some.inj e; omega
  have HC := Lib.hid (((hC3.grow (grown_at _ r 0 (.int .i64 s0)) cg cn).grow (grown_at _ r 1 (.int .i64 a0)) cg cn).grow (grown_at _ r 2 (.int .i64 b0)) cg cn)
  have HO := Lib.hid (only_setNew (only_setNew (only_setNew o3 hrW (o := 0) (.int .i64 s0)) hrW (o := 1) (.int .i64 a0)) hrW (o := 2) (.int .i64 b0))
  clear r3 j3 o3 hC3 cn cg hrW hgr hrj hsz h0 h1 h2
  go_wp2
  exact bodyPost_ret (v := .agg #[.int .i64 s0, .int .i64 a0, .int .i64 b0]) (by simp [results, Try.results74, go_sem, World.cell?_setCell_same', World.cell?_setCell_other, z0, z1, z2]) rfl ⟨_, _, _, rfl, HC.out, HO.out⟩

end Go.Proofs.Ytkbpehklfjnjjaa
