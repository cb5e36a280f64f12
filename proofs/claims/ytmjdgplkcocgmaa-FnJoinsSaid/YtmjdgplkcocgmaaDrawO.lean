/-
  The drawing of a valid layout.
-/
import Derived.Test.YtmjdgplkcocgmaaDrawM
set_option linter.unusedVariables false
namespace Go.Proofs.Ytmjdgplkcocgmaa
open Go.RowKit

theorem rd_set3 {w : World} {r : Nat} {u0 u1 u2 : Value} {T : TypeId} {fs : Nat × Nat} {A : Option Addr} {n : Nat} {ps : List Patch} (hq : w.heap[r]? = some (.cells #[u0, u1, u2] T fs)) (h : Rd w A n 5 ps patchC) (o : Nat) (u : Value) :
    Rd (w.setCell ⟨r, o, none⟩ u) A n 5 ps patchC := by
  refine ⟨h.1, fun hn => ?_⟩
  obtain ⟨b, off, e, hlt, hc⟩ := h.2 hn
  have hbr : b ≠ r := by
    rintro rfl
    have hl : 0 < ps.length := by rw [h.1]; exact hn
    have := hc 0 ps[0] 4 _ (List.getElem?_eq_getElem hl) rfl
    rw [cell_of_row _ _ _ _ _ _ hq] at this
    simp at this
  refine ⟨b, off, e, by rw [set_size]; exact hlt, fun i x j v h1 h2 => ?_⟩
  exact (World.cell?_of_block (a := ⟨b, _, none⟩) (row_far _ hbr)).trans (hc i x j v h1 h2)

def LayoutDrawn (W : World) (e : Ending) (w' : World) : Prop :=
  ∃ (w h : Int) (ps : List Patch) (A1 : Option Addr) (n1 c1 : Nat), e = .returned (.agg #[.int .i64 w, .int .i64 h, .slice A1 n1 c1]) ∧ layoutOk w h ps = true ∧ Rd w' A1 n1 5 ps patchC ∧ Below W.heap.size W w'
theorem drawLayout_any (A : Option Addr) (n c : Nat) (xs : List UInt8) (W : World) (hR : Rd W A n 1 xs byteC) (hn : n ≤ 1048576) :
    Calls Try.prog 29 #[.slice A n c] W (LayoutDrawn W) := by
  go_enter Try.func29, Try.ntmps29
  obtain ⟨wa, hwa⟩ : ∃ v, Hid (W.alloc (.cells #[.int .i64 0, .int .i64 0, .slice none 0 0] 30) = v) := ⟨_, rfl⟩
  obtain ⟨r, hr⟩ : ∃ j, Hid (W.heap.size = j) := ⟨_, rfl⟩
  have rr : wa.heap[r]? = some (.cells #[.int .i64 0, .int .i64 0, .slice none 0 0] 30 (0, 0)) := by rw [← hwa.out, ← hr.out]; exact heap_alloc_new W _
  have ba : Below W.heap.size W wa := by rw [← hwa.out]; exact (Below.refl _ _).alloc (Nat.le_refl _) _
  have hRa := hR.below ba
  go_wp2_with (first | rw [hwa.out] | rw [hr.out])
  refine (l01New_any A n c xs _ hRa hn).mono ?_
  rintro e w1 ⟨g, rfl, hC1⟩
  go_wp2_with fail
  refine (l09Cut_any _ _ A n xs _ hC1).mono ?_
  rintro e w2 ⟨w, h, ps, A1, n1, c1, rfl, hok, hR1, hC2⟩
  have hb := hC2.base
  have q0 := (hb.block r (heap_lt rr)).trans rr
  have B2 : Below W.heap.size W w2 := ba.trans (hb.mono ba.size)
  have R1 := rd_set3 q0 hR1 0 (.int .i64 w)
  have q1 := row_set (o := 0) (.int .i64 w) q0
  have R2 := rd_set3 q1 R1 1 (.int .i64 h)
  have q2 := row_set (o := 1) (.int .i64 h) q1
  have R3 := rd_set3 q2 R2 2 (.slice A1 n1 c1)
  have q3 := row_set (o := 2) (.slice A1 n1 c1) q2
  have hrW : W.heap.size ≤ r := by have := hr.out; omega
  have B3 := ((B2.setCell (p := ⟨r, 0, none⟩) hrW (.int .i64 w)).setCell (p := ⟨r, 1, none⟩) hrW (.int .i64 h)).setCell (p := ⟨r, 2, none⟩) hrW (.slice A1 n1 c1)
  have z0 : w2.cell? ⟨r, 0, none⟩ = some (.int .i64 0) := by rw [cell_of_row _ _ _ _ _ _ q0]; rfl
  have z1 : w2.cell? ⟨r, 1, none⟩ = some (.int .i64 0) := by rw [cell_of_row _ _ _ _ _ _ q0]; rfl
  have z2 : w2.cell? ⟨r, 2, none⟩ = some (.slice none 0 0) := by rw [cell_of_row _ _ _ _ _ _ q0]; rfl
  have f0 : w2.frozen? ⟨r, 0, none⟩ = false := frozen_of_row _ _ _ _ _ q0
  have f1 : w2.frozen? ⟨r, 1, none⟩ = false := frozen_of_row _ _ _ _ _ q0
  have f2 : w2.frozen? ⟨r, 2, none⟩ = false := frozen_of_row _ _ _ _ _ q0
  have HF := Lib.hid (And.intro R3 B3)
  clear hR1 hC2 hC1 rr ba hRa hb q0 B2 R1 q1 R2 q2 R3 q3 B3
  go_wp2
  refine bodyPost_ret (v := .agg #[.int .i64 w, .int .i64 h, .slice A1 n1 c1]) (by simp [results, Try.results29, go_sem, World.cell?_setCell_same', World.cell?_setCell_other, z0, z1, z2]) rfl ⟨w, h, ps, A1, n1, c1, rfl, hok, HF.out.1, HF.out.2⟩

end Go.Proofs.Ytmjdgplkcocgmaa
