/-
  What is cut is greater than what is seen: the plain law, and the drawing of a valid layout.
-/
import Derived.Test.YtmjdgplkcocgmaaDrawM
import Derived.Test.YtmjdgplkcocgmaaCutC
set_option linter.unusedVariables false
namespace Go.Proofs.Ytmjdgplkcocgmaa
open Go.RowKit

theorem alw_row {W H s : Int} (h1 : 1 ≤ W) (h2 : W ≤ 12) (h3 : 1 ≤ H) (h4 : H ≤ 12) (s1 : 1 ≤ s) (s2 : s ≤ 40) (x y c : Int) :
    cutRow s ⟨x, y, W, H, c⟩ = [W * s + 4, H * s + 4] ∧ (1 ≤ W * s ∧ W * s ≤ 480) ∧ (1 ≤ H * s ∧ H * s ≤ 480) := by
  have a1 := mul_bd40 h1 h2 s1 s2
  have a2 := mul_bd40 h3 h4 s1 s2
  refine ⟨?_, a1, a2⟩
  unfold cutRow
  simp only
  rw [cut_small (by omega) (by omega), cut_small (by omega) (by omega)]
theorem alw_mul (W H s : Int) (h1 : 1 ≤ W * s) (h2 : 1 ≤ H * s) : W * H * (s * s) + 1 ≤ (W * s + 4) * (H * s + 4) := by
  have e : W * H * (s * s) = (W * s) * (H * s) := by rw [Int.mul_assoc, Int.mul_assoc, ← Int.mul_assoc H s s, ← Int.mul_assoc s H s, Int.mul_comm s H]
  rw [e, Int.add_mul, Int.mul_add]
  omega
theorem alw_sum {s : Int} (s1 : 1 ≤ s) (s2 : s ≤ 40) : ∀ ps : List Patch, (∀ p ∈ ps, (1 ≤ p.W ∧ p.W ≤ 12) ∧ 1 ≤ p.H ∧ p.H ≤ 12) → areaOf ps * (s * s) + (ps.length : Int) ≤ mulSum (ps.map (cutRow s))
  | [], _ => by simp [areaOf, mulSum]
  | p :: ps, h => by
    have ih := alw_sum s1 s2 ps fun q hq => h q (List.mem_cons_of_mem _ hq)
    obtain ⟨⟨h1, h2⟩, h3, h4⟩ := h p (List.mem_cons_self)
    obtain ⟨x, y, W, H, c⟩ := p
    simp only at h1 h2 h3 h4
    obtain ⟨e, a1, a2⟩ := alw_row h1 h2 h3 h4 s1 s2 x y c
    have hm := alw_mul W H s a1.1 a2.1
    have e1 : areaOf (⟨x, y, W, H, c⟩ :: ps) = W * H + areaOf ps := by simp [areaOf]
    have e2 : mulSum ((⟨x, y, W, H, c⟩ :: ps).map (cutRow s)) = (W * s + 4) * (H * s + 4) + mulSum (ps.map (cutRow s)) := by
      unfold mulSum
      rw [List.map_cons, List.map_cons, List.sum_cons, e]
      rfl
    rw [e1, e2, Int.add_mul, List.length_cons]
    omega
theorem alw_need {w h s : Int} {ps : List Patch} (k : layoutOk w h ps = true) (s1 : 1 ≤ s) (s2 : s ≤ 40) :
    patchCuts w h ps s = ps.map (cutRow s) ∧ clothOf w h ps s = mulSum (ps.map (cutRow s)) ∧ w * h * s * s < mulSum (ps.map (cutRow s)) ∧ 0 ≤ w * h * s * s ∧ w * h * s * s ≤ 230400 ∧ (1 ≤ w * h ∧ w * h ≤ 144) ∧ 1 ≤ w * h * s ∧ w * h * s ≤ 5760 := by
  have hs : within s 1 40 = true := by rw [within_iff]; omega
  have hc := cuts_yes k hs
  obtain ⟨hw, hh, hl, hp, _, ha⟩ := layout_parts k
  have hall : ∀ p ∈ ps, (1 ≤ p.W ∧ p.W ≤ 12) ∧ 1 ≤ p.H ∧ p.H ≤ 12 := fun p hp' => by
    have := patchIn_bd (List.all_eq_true.1 hp p hp')
    omega
  have hm := alw_sum s1 s2 ps hall
  rw [ha, ← Int.mul_assoc] at hm
  have hwh : 1 * 1 ≤ w * h ∧ w * h ≤ 12 * 12 := ⟨Int.mul_le_mul hw.1 hh.1 (by decide) (by omega), Int.mul_le_mul hw.2 hh.2 (by omega) (by decide)⟩
  have h3 : 1 * 1 ≤ w * h * s ∧ w * h * s ≤ 144 * 40 := ⟨Int.mul_le_mul (by omega) s1 (by decide) (by omega), Int.mul_le_mul (by omega) s2 (by omega) (by decide)⟩
  have h4 : 1 * 1 ≤ w * h * s * s ∧ w * h * s * s ≤ 5760 * 40 := ⟨Int.mul_le_mul (by omega) s1 (by decide) (by omega), Int.mul_le_mul (by omega) s2 (by omega) (by decide)⟩
  refine ⟨hc, ?_, by omega, by omega, by omega, by omega, by omega⟩
  unfold clothOf
  rw [hc, List.length_map, if_neg (by omega)]
theorem alw_drift {p o : Int} (h1 : 1 ≤ p) (h2 : p ≤ 90) (h3 : -4 ≤ o) (h4 : o ≤ 4) :
    ∃ D, driftOf p o = D ∧ driftOf p (-o) = -D ∧ driftOf (p + 1) o = D + 2 * o ∧ -1000 ≤ D ∧ D ≤ 1000 := by
  have b := drift_bd h1 (by omega) h3 h4
  have w1 : within p 1 100 = true := by rw [within_iff]; omega
  have w2 : within o (-4) 4 = true := by rw [within_iff]; omega
  have w3 : within (-o) (-4) 4 = true := by rw [within_iff]; omega
  have w4 : within (p + 1) 1 100 = true := by rw [within_iff]; omega
  refine ⟨2 * o * (p - 1), ?_, ?_, ?_, b⟩
  · unfold driftOf; rw [if_pos ⟨w1, w2⟩]
  · unfold driftOf; rw [if_pos ⟨w1, w3⟩, Int.mul_neg, Int.neg_mul]
  · unfold driftOf; rw [if_pos ⟨w4, w2⟩, show p + 1 - 1 = (p - 1) + 1 by omega, Int.mul_add, Int.mul_one]
theorem finished_no : finishedSize 4 = -1 := by decide
theorem finished_cut {x : Int} (h1 : 1 ≤ x) (h2 : x ≤ 1000) : finishedSize (x + 4) = x := by
  unfold finishedSize
  rw [if_pos (by rw [within_iff]; omega)]
  omega
theorem triangle_yes {x : Int} (h1 : 1 ≤ x) (h2 : x ≤ 1000) : triangleSide x = x + 7 := by
  unfold triangleSide
  rw [if_pos (by rw [within_iff]; omega)]

theorem rd_set3 {w : World} {r : Nat} {u0 u1 u2 : Value} {T : TypeId} {fs : Nat × Nat} {A : Option Addr} {n : Nat} {ps : List Patch} (hq : w.heap[r]? = some (.cells #[u0, u1, u2] T fs)) (h : Rd w A n 5 ps patchC) (o : Nat) (u : Value) :
    Rd (w.setCell ⟨r, o, none⟩ u) A n 5 ps patchC := by
  refine ⟨h.1, fun hn => ?_⟩
  obtain ⟨b, off, e, hlt, hc⟩ := h.2 hn
  have hbr : b ≠ r := by
    rintro rfl
    have hl : 0 < ps.length := by rw [h.1]; exact hn
    have := hc 0 ps[0] 4 _ (List.getElem?_eq_getElem hl) rfl
    rw [cell_of_row _ _ _ _ _ _ hq] at this
    simp at this
  refine ⟨b, off, e, by rw [set_size]; exact hlt, fun i x j v h1 h2 => ?_⟩
  exact (World.cell?_of_block (a := ⟨b, _, none⟩) (row_far _ hbr)).trans (hc i x j v h1 h2)

def LayoutDrawn (W : World) (e : Ending) (w' : World) : Prop :=
  ∃ (w h : Int) (ps : List Patch) (A1 : Option Addr) (n1 c1 : Nat), e = .returned (.agg #[.int .i64 w, .int .i64 h, .slice A1 n1 c1]) ∧ layoutOk w h ps = true ∧ Rd w' A1 n1 5 ps patchC ∧ Below W.heap.size W w'
theorem drawLayout_any (A : Option Addr) (n c : Nat) (xs : List UInt8) (W : World) (hR : Rd W A n 1 xs byteC) (hn : n ≤ 1048576) :
    Calls Try.prog 29 #[.slice A n c] W (LayoutDrawn W) := by
  go_enter Try.func29, Try.ntmps29
  obtain ⟨wa, hwa⟩ : ∃ v, Hid (W.alloc (.cells #[.int .i64 0, .int .i64 0, .slice none 0 0] 30) = v) := ⟨_, rfl⟩
  obtain ⟨r, hr⟩ : ∃ j, Hid (W.heap.size = j) := ⟨_, rfl⟩
  have rr : wa.heap[r]? = some (.cells #[.int .i64 0, .int .i64 0, .slice none 0 0] 30 (0, 0)) := by rw [← hwa.out, ← hr.out]; exact heap_alloc_new W _
  have ba : Below W.heap.size W wa := by rw [← hwa.out]; exact (Below.refl _ _).alloc (Nat.le_refl _) _
  have hRa := hR.below ba
  go_wp2_with (first | rw [hwa.out] | rw [hr.out])
  refine (l01New_any A n c xs _ hRa hn).mono ?_
  rintro e w1 ⟨g, rfl, hC1⟩
  go_wp2_with fail
  refine (l09Cut_any _ _ A n xs _ hC1).mono ?_
  rintro e w2 ⟨w, h, ps, A1, n1, c1, rfl, hok, hR1, hC2⟩
  have hb := hC2.base
  have q0 := (hb.block r (heap_lt rr)).trans rr
  have B2 : Below W.heap.size W w2 := ba.trans (hb.mono ba.size)
  have R1 := rd_set3 q0 hR1 0 (.int .i64 w)
  have q1 := row_set (o := 0) (.int .i64 w) q0
  have R2 := rd_set3 q1 R1 1 (.int .i64 h)
  have q2 := row_set (o := 1) (.int .i64 h) q1
  have R3 := rd_set3 q2 R2 2 (.slice A1 n1 c1)
  have q3 := row_set (o := 2) (.slice A1 n1 c1) q2
  have hrW : W.heap.size ≤ r := by have := hr.out; omega
  have B3 := ((B2.setCell (p := ⟨r, 0, none⟩) hrW (.int .i64 w)).setCell (p := ⟨r, 1, none⟩) hrW (.int .i64 h)).setCell (p := ⟨r, 2, none⟩) hrW (.slice A1 n1 c1)
  have z0 : w2.cell? ⟨r, 0, none⟩ = some (.int .i64 0) := by rw [cell_of_row _ _ _ _ _ _ q0]; rfl
  have z1 : w2.cell? ⟨r, 1, none⟩ = some (.int .i64 0) := by rw [cell_of_row _ _ _ _ _ _ q0]; rfl
  have z2 : w2.cell? ⟨r, 2, none⟩ = some (.slice none 0 0) := by rw [cell_of_row _ _ _ _ _ _ q0]; rfl
  have f0 : w2.frozen? ⟨r, 0, none⟩ = false := frozen_of_row _ _ _ _ _ q0
  have f1 : w2.frozen? ⟨r, 1, none⟩ = false := frozen_of_row _ _ _ _ _ q0
  have f2 : w2.frozen? ⟨r, 2, none⟩ = false := frozen_of_row _ _ _ _ _ q0
  have HF := Lib.hid (And.intro R3 B3)
  clear hR1 hC2 hC1 rr ba hRa hb q0 B2 R1 q1 R2 q2 R3 q3 B3
  go_wp2
  refine bodyPost_ret (v := .agg #[.int .i64 w, .int .i64 h, .slice A1 n1 c1]) (by simp [results, Try.results29, go_sem, World.cell?_setCell_same', World.cell?_setCell_other, z0, z1, z2]) rfl ⟨w, h, ps, A1, n1, c1, rfl, hok, HF.out.1, HF.out.2⟩

end Go.Proofs.Ytmjdgplkcocgmaa
