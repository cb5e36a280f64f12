/-
  Contracts over blocks: which cells and blocks are valid.
-/
import Derived.Test.YtkbpehklfjnjjaaPlainB
import Derived.Test.YtkbpehklfjnjjaaScalA
import Derived.Test.YtkbpehklfjnjjaaFlatCell
set_option linter.unusedVariables false
namespace Go.Proofs.Ytkbpehklfjnjjaa
open Go.RowKit

def cellOk (c : Cell) : Bool := within c.Split 0 2 && within c.A 0 5 && within c.B 0 5 && ((c.Split == 0) == (c.A == c.B))
def blockOk (s : Int) (cs : List Cell) : Bool := within s 1 4 && decide ((cs.length : Int) = s * s) && cs.all cellOk
theorem cellOk_bd {c : Cell} (h : cellOk c = true) : (0 ≤ c.Split ∧ c.Split ≤ 2) ∧ (0 ≤ c.A ∧ c.A ≤ 5) ∧ 0 ≤ c.B ∧ c.B ≤ 5 := by
  unfold cellOk at h
  simp only [Bool.and_eq_true, within_iff] at h
  exact ⟨h.1.1.1, h.1.1.2, h.1.2⟩
theorem block_parts {s : Int} {cs : List Cell} (h : blockOk s cs = true) : (1 ≤ s ∧ s ≤ 4) ∧ (cs.length : Int) = s * s ∧ cs.all cellOk = true := by
  unfold blockOk at h
  simp only [Bool.and_eq_true, within_iff, decide_eq_true_iff] at h
  exact ⟨h.1.1, h.1.2, h.2⟩
theorem block_no1 {s : Int} {cs : List Cell} (h : within s 1 4 = false) : false = blockOk s cs := by
  unfold blockOk
  rw [h]; rfl
theorem block_no2 {s : Int} {cs : List Cell} (h : (cs.length : Int) ≠ s * s) : false = blockOk s cs := by
  unfold blockOk
  rw [decide_eq_false h, Bool.and_false]; rfl
theorem block_bad {s : Int} {cs : List Cell} {k : Nat} {c : Cell} (hc : cs[k]? = some c) (h : cellOk c = false) : false = blockOk s cs := by
  unfold blockOk
  rw [all_no hc h, Bool.and_false]
theorem block_end {s : Int} {cs : List Cell} (h1 : within s 1 4 = true) (h2 : (cs.length : Int) = s * s) (h3 : cs.all cellOk = true) : true = blockOk s cs := by
  unfold blockOk
  rw [h1, decide_eq_true h2, h3]; rfl
theorem sq_bd {s : Int} (h1 : 1 ≤ s) (h2 : s ≤ 4) : 1 ≤ s * s ∧ s * s ≤ 16 := by
  have h3 : 1 * 1 ≤ s * s := Int.mul_le_mul h1 h1 (by decide) (by omega)
  have h4 : s * s ≤ 4 * 4 := Int.mul_le_mul h2 h2 (by omega) (by decide)
  omega

theorem isColor_any (a : Int) (w : World) : Calls Try.prog 70 #[.int .i64 a] w fun e w' => e = .returned (.bool (within a 0 5)) ∧ w = w' := by
  go_enter Try.func70, Try.ntmps70
  go_wp2_with (go_at_call 48; refine (within_any _ _ _ _).mono ?_; rintro e w' ⟨rfl, rfl⟩)
  go_ret
  exact ⟨rfl, rfl⟩

theorem cellOkI_any (s a b : Int) (W : World) : Calls Try.prog 61 #[.agg #[.int .i64 s, .int .i64 a, .int .i64 b]] W fun e w' => e = .returned (.bool (cellOk ⟨s, a, b⟩)) ∧ Below W.heap.size W w' := by
  rcases c0 : within s 0 2 with _ | _
  · have HN := Lib.hid (show false = cellOk ⟨s, a, b⟩ by simp [cellOk, c0])
    go_enter Try.func61, Try.ntmps61
    go_wp2_with (first | (go_at_call 48; refine (within_any _ _ _ _).mono ?_; rintro e w' ⟨rfl, rfl⟩) | (go_at_call 70; refine (isColor_any _ _).mono ?_; rintro e w' ⟨rfl, rfl⟩))
    go_ret
    exact ⟨ret_b HN.out, by (repeat (first | exact Below.refl _ _ | assumption | (refine Below.drew ?_) | (refine below_drewN ?_ _) | (refine Below.alloc ?_ (by first | exact Nat.le_refl _ | (simp; done) | (simp; omega) | omega) _) | (refine Below.setCell ?_ (by first | exact Nat.le_refl _ | (simp; done) | (simp; omega) | omega) _) | (refine Below.trans ?_ (Below.mono (by assumption) (by first | exact Nat.le_refl _ | (simp; done) | (simp; omega) | omega)))))⟩
  rcases c1 : within a 0 5 with _ | _
  · have HN := Lib.hid (show false = cellOk ⟨s, a, b⟩ by simp [cellOk, c1])
    go_enter Try.func61, Try.ntmps61
    go_wp2_with (first | (go_at_call 48; refine (within_any _ _ _ _).mono ?_; rintro e w' ⟨rfl, rfl⟩) | (go_at_call 70; refine (isColor_any _ _).mono ?_; rintro e w' ⟨rfl, rfl⟩))
    go_ret
    exact ⟨ret_b HN.out, by (repeat (first | exact Below.refl _ _ | assumption | (refine Below.drew ?_) | (refine below_drewN ?_ _) | (refine Below.alloc ?_ (by first | exact Nat.le_refl _ | (simp; done) | (simp; omega) | omega) _) | (refine Below.setCell ?_ (by first | exact Nat.le_refl _ | (simp; done) | (simp; omega) | omega) _) | (refine Below.trans ?_ (Below.mono (by assumption) (by first | exact Nat.le_refl _ | (simp; done) | (simp; omega) | omega)))))⟩
  rcases c2 : within b 0 5 with _ | _
  · have HN := Lib.hid (show false = cellOk ⟨s, a, b⟩ by simp [cellOk, c2])
    go_enter Try.func61, Try.ntmps61
    go_wp2_with (first | (go_at_call 48; refine (within_any _ _ _ _).mono ?_; rintro e w' ⟨rfl, rfl⟩) | (go_at_call 70; refine (isColor_any _ _).mono ?_; rintro e w' ⟨rfl, rfl⟩))
    go_ret
    exact ⟨ret_b HN.out, by (repeat (first | exact Below.refl _ _ | assumption | (refine Below.drew ?_) | (refine below_drewN ?_ _) | (refine Below.alloc ?_ (by first | exact Nat.le_refl _ | (simp; done) | (simp; omega) | omega) _) | (refine Below.setCell ?_ (by first | exact Nat.le_refl _ | (simp; done) | (simp; omega) | omega) _) | (refine Below.trans ?_ (Below.mono (by assumption) (by first | exact Nat.le_refl _ | (simp; done) | (simp; omega) | omega)))))⟩
  have HN := Lib.hid (show ((s == 0) == (a == b)) = cellOk ⟨s, a, b⟩ by unfold cellOk; rw [c0, c1, c2]; rfl)
  go_enter Try.func61, Try.ntmps61
  go_wp2_with (first | (go_at_call 48; refine (within_any _ _ _ _).mono ?_; rintro e w' ⟨rfl, rfl⟩) | (go_at_call 70; refine (isColor_any _ _).mono ?_; rintro e w' ⟨rfl, rfl⟩))
  go_ret
  exact ⟨ret_b HN.out, by (repeat (first | exact Below.refl _ _ | assumption | (refine Below.drew ?_) | (refine below_drewN ?_ _) | (refine Below.alloc ?_ (by first | exact Nat.le_refl _ | (simp; done) | (simp; omega) | omega) _) | (refine Below.setCell ?_ (by first | exact Nat.le_refl _ | (simp; done) | (simp; omega) | omega) _) | (refine Below.trans ?_ (Below.mono (by assumption) (by first | exact Nat.le_refl _ | (simp; done) | (simp; omega) | omega)))))⟩

set_option maxRecDepth 100000 in
theorem blockOkI_any (s : Int) (A : Option Addr) (n c : Nat) (cs : List Cell) (W : World) (hR : Rd W A n 3 cs cellC) (hN : n ≤ 1048576) :
    Calls Try.prog 47 #[.agg #[.int .i64 s, .slice A n c]] W fun e w' => e = .returned (.bool (blockOk s cs)) ∧ Below W.heap.size W w' := by
  have HLEN := Lib.hid hR.len
  rcases h1 : within s 1 4 with _ | _
  · have HN := Lib.hid (block_no1 (cs := cs) h1)
    go_enter Try.func47, Try.ntmps47
    go_wp2_with (first | (go_at_call 48; refine (within_any _ _ _ _).mono ?_; rintro e w' ⟨rfl, rfl⟩) | (go_at_call 70; refine (isColor_any _ _).mono ?_; rintro e w' ⟨rfl, rfl⟩))
    go_ret
    exact ⟨ret_b HN.out, by (repeat (first | exact Below.refl _ _ | assumption | (refine Below.drew ?_) | (refine below_drewN ?_ _) | (refine Below.alloc ?_ (by first | exact Nat.le_refl _ | (simp; done) | (simp; omega) | omega) _) | (refine Below.setCell ?_ (by first | exact Nat.le_refl _ | (simp; done) | (simp; omega) | omega) _) | (refine Below.trans ?_ (Below.mono (by assumption) (by first | exact Nat.le_refl _ | (simp; done) | (simp; omega) | omega)))))⟩
  have hsb := within_iff.1 h1
  have hsq := sq_bd hsb.1 hsb.2
  by_cases h2 : (n : Int) = s * s
  · have H1 := Lib.hid h1
    have H2 := Lib.hid (show (cs.length : Int) = s * s by rw [HLEN.out]; exact h2)
    have hn16 : n ≤ 16 := by omega
    have hsn : s * s = (n : Int) := h2.symm
    clear h2
    obtain ⟨jb, hjb⟩ : ∃ j, Hid (j = W.heap.size) := ⟨_, rfl⟩
    have e1 : (W.alloc (.cells #[.int .i64 s, .slice A n c] 30)).cell? ⟨jb, 1, none⟩ = some (.slice A n c) := by rw [hjb.out, cell_of_row _ _ _ _ _ _ (heap_alloc_new W _)]; rfl
    have hR1 : Rd (W.alloc (.cells #[.int .i64 s, .slice A n c] 30)) A n 3 cs cellC := hR.below ((Below.refl _ _).alloc (Nat.le_refl _) _)
    have hBW : Below W.heap.size W (W.alloc (.cells #[.int .i64 s, .slice A n c] 30)) := (Below.refl _ _).alloc (Nat.le_refl _) _
    have hsW : W.heap.size ≤ (W.alloc (.cells #[.int .i64 s, .slice A n c] 30)).heap.size := by simp
    have hsz : jb < (W.alloc (.cells #[.int .i64 s, .slice A n c] 30)).heap.size := by rw [hjb.out]; simp
    go_enter Try.func47, Try.ntmps47
    go_wp2_with (first | (go_at_call 48; refine (within_any _ _ _ _).mono ?_; rintro e w' ⟨rfl, rfl⟩) | (go_at_call 70; refine (isColor_any _ _).mono ?_; rintro e w' ⟨rfl, rfl⟩))
    rw [← hjb.out]
    generalize W.alloc (.cells #[.int .i64 s, .slice A n c] 30) = W1 at e1 hR1 hBW hsW hsz ⊢
    clear hR h1 hsn
    go_loopw [23] (fun i wr => ∃ k : Nat, k ≤ n ∧ i = .int .i64 (k : Int) ∧ Hid ((cs.take k).all cellOk = true) ∧ Below W1.heap.size W1 wr) (fun i _ => n - (intOf i).toNat)
    case atStart => exact ⟨0, Nat.zero_le _, rfl, by simp [Hid], Below.refl _ _⟩
    case round =>
      obtain ⟨k, hk, rfl, hall, hB⟩ := hrel
      have hz := hB.size
      have e1r := keepcell e1 hB
      by_cases hlt : k < n
      · obtain ⟨b, off, x, rfl, hbW, hx, g0, g1, g2⟩ := hR1.cell hlt hB
        have HX := Lib.hid hx
        clear hx
        obtain ⟨x0, x1, x2⟩ := x
        simp only at g0 g1 g2
        rcases hc : cellOk ⟨x0, x1, x2⟩ with _ | _
        · go_wp2_with (go_at_call 61; refine (cellOkI_any _ _ _ _).mono ?_; rintro e w3 ⟨rfl, hb3⟩; rw [hc])
          go_ret
          exact ⟨ret_b (block_bad HX.out hc), hBW.trans (Below.mono (B := W1.heap.size) (by (repeat (first | exact Below.refl _ _ | assumption | (refine Below.drew ?_) | (refine below_drewN ?_ _) | (refine Below.alloc ?_ (by first | exact Nat.le_refl _ | (simp; done) | (simp; omega) | omega) _) | (refine Below.setCell ?_ (by first | exact Nat.le_refl _ | (simp; done) | (simp; omega) | omega) _) | (refine Below.trans ?_ (Below.mono (by assumption) (by first | exact Nat.le_refl _ | (simp; done) | (simp; omega) | omega)))))) hsW)⟩
        · go_wp2_with (go_at_call 61; refine (cellOkI_any _ _ _ _).mono ?_; rintro e w3 ⟨rfl, hb3⟩; rw [hc])
          go_roundw
          case rel => exact ⟨k + 1, by omega, by go_num, all_take_succ HX.out hall.out hc, by (repeat (first | exact Below.refl _ _ | assumption | (refine Below.drew ?_) | (refine below_drewN ?_ _) | (refine Below.alloc ?_ (by first | exact Nat.le_refl _ | (simp; done) | (simp; omega) | omega) _) | (refine Below.setCell ?_ (by first | exact Nat.le_refl _ | (simp; done) | (simp; omega) | omega) _) | (refine Below.trans ?_ (Below.mono (by assumption) (by first | exact Nat.le_refl _ | (simp; done) | (simp; omega) | omega)))))⟩
          case measure => simp [intOf]; omega
      · obtain rfl : k = n := by omega
        have HN := Lib.hid (block_end H1.out H2.out (by have := hall.out; rwa [List.take_of_length_le (Nat.le_of_eq HLEN.out)] at this))
        go_wp2
        go_ret
        exact ⟨ret_b HN.out, hBW.trans (hB.mono hsW)⟩
  · have HN := Lib.hid (block_no2 (show (cs.length : Int) ≠ s * s by rw [HLEN.out]; exact h2))
    have h2' : ((n : Int) == s * s) = false := by rw [beq_eq_false_iff_ne]; exact h2
    clear h2
    go_enter Try.func47, Try.ntmps47
    go_wp2_with (first | (go_at_call 48; refine (within_any _ _ _ _).mono ?_; rintro e w' ⟨rfl, rfl⟩) | (go_at_call 70; refine (isColor_any _ _).mono ?_; rintro e w' ⟨rfl, rfl⟩))
    go_ret
    exact ⟨ret_b HN.out, by (repeat (first | exact Below.refl _ _ | assumption | (refine Below.drew ?_) | (refine below_drewN ?_ _) | (refine Below.alloc ?_ (by first | exact Nat.le_refl _ | (simp; done) | (simp; omega) | omega) _) | (refine Below.setCell ?_ (by first | exact Nat.le_refl _ | (simp; done) | (simp; omega) | omega) _) | (refine Below.trans ?_ (Below.mono (by assumption) (by first | exact Nat.le_refl _ | (simp; done) | (simp; omega) | omega)))))⟩

theorem cellOkS_any (s a b : Int) (W : World) : Calls Try.prog 53 #[.agg #[.int .i64 s, .int .i64 a, .int .i64 b]] W fun e w' => e = .returned (.bool (cellOk ⟨s, a, b⟩)) ∧ Below W.heap.size W w' := by
  rcases c0 : within s 0 2 with _ | _
  · have HN := Lib.hid (show false = cellOk ⟨s, a, b⟩ by simp [cellOk, c0])
    go_enter Try.func53, Try.ntmps53
    go_wp2_with (go_at_call 44; refine (l01In_any _ _ _ _).mono ?_; rintro e w' ⟨rfl, rfl⟩)
    go_ret
    exact ⟨ret_b HN.out, by (repeat (first | exact Below.refl _ _ | assumption | (refine Below.drew ?_) | (refine below_drewN ?_ _) | (refine Below.alloc ?_ (by first | exact Nat.le_refl _ | (simp; done) | (simp; omega) | omega) _) | (refine Below.setCell ?_ (by first | exact Nat.le_refl _ | (simp; done) | (simp; omega) | omega) _) | (refine Below.trans ?_ (Below.mono (by assumption) (by first | exact Nat.le_refl _ | (simp; done) | (simp; omega) | omega)))))⟩
  rcases c1 : within a 0 5 with _ | _
  · have HN := Lib.hid (show false = cellOk ⟨s, a, b⟩ by simp [cellOk, c1])
    go_enter Try.func53, Try.ntmps53
    go_wp2_with (go_at_call 44; refine (l01In_any _ _ _ _).mono ?_; rintro e w' ⟨rfl, rfl⟩)
    go_ret
    exact ⟨ret_b HN.out, by (repeat (first | exact Below.refl _ _ | assumption | (refine Below.drew ?_) | (refine below_drewN ?_ _) | (refine Below.alloc ?_ (by first | exact Nat.le_refl _ | (simp; done) | (simp; omega) | omega) _) | (refine Below.setCell ?_ (by first | exact Nat.le_refl _ | (simp; done) | (simp; omega) | omega) _) | (refine Below.trans ?_ (Below.mono (by assumption) (by first | exact Nat.le_refl _ | (simp; done) | (simp; omega) | omega)))))⟩
  rcases c2 : within b 0 5 with _ | _
  · have HN := Lib.hid (show false = cellOk ⟨s, a, b⟩ by simp [cellOk, c2])
    go_enter Try.func53, Try.ntmps53
    go_wp2_with (go_at_call 44; refine (l01In_any _ _ _ _).mono ?_; rintro e w' ⟨rfl, rfl⟩)
    go_ret
    exact ⟨ret_b HN.out, by (repeat (first | exact Below.refl _ _ | assumption | (refine Below.drew ?_) | (refine below_drewN ?_ _) | (refine Below.alloc ?_ (by first | exact Nat.le_refl _ | (simp; done) | (simp; omega) | omega) _) | (refine Below.setCell ?_ (by first | exact Nat.le_refl _ | (simp; done) | (simp; omega) | omega) _) | (refine Below.trans ?_ (Below.mono (by assumption) (by first | exact Nat.le_refl _ | (simp; done) | (simp; omega) | omega)))))⟩
  have HN := Lib.hid (show ((s == 0) == (a == b)) = cellOk ⟨s, a, b⟩ by unfold cellOk; rw [c0, c1, c2]; rfl)
  go_enter Try.func53, Try.ntmps53
  go_wp2_with (go_at_call 44; refine (l01In_any _ _ _ _).mono ?_; rintro e w' ⟨rfl, rfl⟩)
  go_ret
  exact ⟨ret_b HN.out, by (repeat (first | exact Below.refl _ _ | assumption | (refine Below.drew ?_) | (refine below_drewN ?_ _) | (refine Below.alloc ?_ (by first | exact Nat.le_refl _ | (simp; done) | (simp; omega) | omega) _) | (refine Below.setCell ?_ (by first | exact Nat.le_refl _ | (simp; done) | (simp; omega) | omega) _) | (refine Below.trans ?_ (Below.mono (by assumption) (by first | exact Nat.le_refl _ | (simp; done) | (simp; omega) | omega)))))⟩

set_option maxRecDepth 100000 in
theorem blockOkS_any (s : Int) (A : Option Addr) (n c : Nat) (cs : List Cell) (W : World) (hR : Rd W A n 3 cs cellC) (hN : n ≤ 1048576) :
    Calls Try.prog 25 #[.agg #[.int .i64 s, .slice A n c]] W fun e w' => e = .returned (.bool (blockOk s cs)) ∧ Below W.heap.size W w' := by
  have HLEN := Lib.hid hR.len
  rcases h1 : within s 1 4 with _ | _
  · have HN := Lib.hid (block_no1 (cs := cs) h1)
    go_enter Try.func25, Try.ntmps25
    go_wp2_with (go_at_call 44; refine (l01In_any _ _ _ _).mono ?_; rintro e w' ⟨rfl, rfl⟩)
    go_ret
    exact ⟨ret_b HN.out, by (repeat (first | exact Below.refl _ _ | assumption | (refine Below.drew ?_) | (refine below_drewN ?_ _) | (refine Below.alloc ?_ (by first | exact Nat.le_refl _ | (simp; done) | (simp; omega) | omega) _) | (refine Below.setCell ?_ (by first | exact Nat.le_refl _ | (simp; done) | (simp; omega) | omega) _) | (refine Below.trans ?_ (Below.mono (by assumption) (by first | exact Nat.le_refl _ | (simp; done) | (simp; omega) | omega)))))⟩
  have hsb := within_iff.1 h1
  have hsq := sq_bd hsb.1 hsb.2
  by_cases h2 : (n : Int) = s * s
  · have H1 := Lib.hid h1
    have H2 := Lib.hid (show (cs.length : Int) = s * s by rw [HLEN.out]; exact h2)
    have hn16 : n ≤ 16 := by omega
    have hsn : s * s = (n : Int) := h2.symm
    clear h2
    obtain ⟨jb, hjb⟩ : ∃ j, Hid (j = W.heap.size) := ⟨_, rfl⟩
    have e1 : (W.alloc (.cells #[.int .i64 s, .slice A n c] 30)).cell? ⟨jb, 1, none⟩ = some (.slice A n c) := by rw [hjb.out, cell_of_row _ _ _ _ _ _ (heap_alloc_new W _)]; rfl
    have hR1 : Rd (W.alloc (.cells #[.int .i64 s, .slice A n c] 30)) A n 3 cs cellC := hR.below ((Below.refl _ _).alloc (Nat.le_refl _) _)
    have hBW : Below W.heap.size W (W.alloc (.cells #[.int .i64 s, .slice A n c] 30)) := (Below.refl _ _).alloc (Nat.le_refl _) _
    have hsW : W.heap.size ≤ (W.alloc (.cells #[.int .i64 s, .slice A n c] 30)).heap.size := by simp
    have hsz : jb < (W.alloc (.cells #[.int .i64 s, .slice A n c] 30)).heap.size := by rw [hjb.out]; simp
    go_enter Try.func25, Try.ntmps25
    go_wp2_with (go_at_call 44; refine (l01In_any _ _ _ _).mono ?_; rintro e w' ⟨rfl, rfl⟩)
    rw [← hjb.out]
    generalize W.alloc (.cells #[.int .i64 s, .slice A n c] 30) = W1 at e1 hR1 hBW hsW hsz ⊢
    clear hR h1 hsn
    go_loopw [3] (fun i wr => ∃ k : Nat, k ≤ n ∧ i = .int .i64 (k : Int) ∧ Hid ((cs.take k).all cellOk = true) ∧ Below W1.heap.size W1 wr) (fun i _ => n - (intOf i).toNat)
    case atStart => exact ⟨0, Nat.zero_le _, rfl, by simp [Hid], Below.refl _ _⟩
    case round =>
      obtain ⟨k, hk, rfl, hall, hB⟩ := hrel
      have hz := hB.size
      have e1r := keepcell e1 hB
      by_cases hlt : k < n
      · obtain ⟨b, off, x, rfl, hbW, hx, g0, g1, g2⟩ := hR1.cell hlt hB
        have HX := Lib.hid hx
        clear hx
        obtain ⟨x0, x1, x2⟩ := x
        simp only at g0 g1 g2
        rcases hc : cellOk ⟨x0, x1, x2⟩ with _ | _
        · go_wp2_with (go_at_call 53; refine (cellOkS_any _ _ _ _).mono ?_; rintro e w3 ⟨rfl, hb3⟩; rw [hc])
          go_ret
          exact ⟨ret_b (block_bad HX.out hc), hBW.trans (Below.mono (B := W1.heap.size) (by (repeat (first | exact Below.refl _ _ | assumption | (refine Below.drew ?_) | (refine below_drewN ?_ _) | (refine Below.alloc ?_ (by first | exact Nat.le_refl _ | (simp; done) | (simp; omega) | omega) _) | (refine Below.setCell ?_ (by first | exact Nat.le_refl _ | (simp; done) | (simp; omega) | omega) _) | (refine Below.trans ?_ (Below.mono (by assumption) (by first | exact Nat.le_refl _ | (simp; done) | (simp; omega) | omega)))))) hsW)⟩
        · go_wp2_with (go_at_call 53; refine (cellOkS_any _ _ _ _).mono ?_; rintro e w3 ⟨rfl, hb3⟩; rw [hc])
          go_roundw
          case rel => exact ⟨k + 1, by omega, by go_num, all_take_succ HX.out hall.out hc, by (repeat (first | exact Below.refl _ _ | assumption | (refine Below.drew ?_) | (refine below_drewN ?_ _) | (refine Below.alloc ?_ (by first | exact Nat.le_refl _ | (simp; done) | (simp; omega) | omega) _) | (refine Below.setCell ?_ (by first | exact Nat.le_refl _ | (simp; done) | (simp; omega) | omega) _) | (refine Below.trans ?_ (Below.mono (by assumption) (by first | exact Nat.le_refl _ | (simp; done) | (simp; omega) | omega)))))⟩
          case measure => simp [intOf]; omega
      · obtain rfl : k = n := by omega
        have HN := Lib.hid (block_end H1.out H2.out (by have := hall.out; rwa [List.take_of_length_le (Nat.le_of_eq HLEN.out)] at this))
        go_wp2
        go_ret
        exact ⟨ret_b HN.out, hBW.trans (hB.mono hsW)⟩
  · have HN := Lib.hid (block_no2 (show (cs.length : Int) ≠ s * s by rw [HLEN.out]; exact h2))
    have h2' : ((n : Int) == s * s) = false := by rw [beq_eq_false_iff_ne]; exact h2
    clear h2
    go_enter Try.func25, Try.ntmps25
    go_wp2_with (go_at_call 44; refine (l01In_any _ _ _ _).mono ?_; rintro e w' ⟨rfl, rfl⟩)
    go_ret
    exact ⟨ret_b HN.out, by (repeat (first | exact Below.refl _ _ | assumption | (refine Below.drew ?_) | (refine below_drewN ?_ _) | (refine Below.alloc ?_ (by first | exact Nat.le_refl _ | (simp; done) | (simp; omega) | omega) _) | (refine Below.setCell ?_ (by first | exact Nat.le_refl _ | (simp; done) | (simp; omega) | omega) _) | (refine Below.trans ?_ (Below.mono (by assumption) (by first | exact Nat.le_refl _ | (simp; done) | (simp; omega) | omega)))))⟩

end Go.Proofs.Ytkbpehklfjnjjaa
