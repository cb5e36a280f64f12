/-
  Contracts over quilts: which quilts are valid.
-/
import Derived.Test.YtkbpehklfjnjjaaBlkA
import Derived.Test.YtkbpehklfjnjjaaFlatSpot
import Derived.Test.YtkbpehklfjnjjaaBS
set_option linter.unusedVariables false
namespace Go.Proofs.Ytkbpehklfjnjjaa
open Go.RowKit

def spotOk (most : Int) (s : Spot) : Bool := within s.Block 0 most && within s.Seen 0 7
def isQuilt (w h : Int) (sp : List Spot) (most : Int) : Bool := within w 1 6 && within h 1 6 && decide ((sp.length : Int) = w * h) && sp.all (spotOk most)
def size0 (bs : List Blk) : Int := (bs.getD 0 (0, [])).1
def blkOk (z : Int) (b : Blk) : Bool := blockOk b.1 b.2 && (b.1 == z)
def quiltOk (w h : Int) (sp : List Spot) (bs : List Blk) : Bool := isQuilt w h sp ((bs.length : Int) - 1) && within (bs.length : Int) 1 6 && bs.all (blkOk (size0 bs))
theorem isq_no1 {w h : Int} {sp : List Spot} {m : Int} (k : within w 1 6 = false) : false = isQuilt w h sp m := by unfold isQuilt; rw [k]; rfl
theorem isq_no2 {w h : Int} {sp : List Spot} {m : Int} (k : within h 1 6 = false) : false = isQuilt w h sp m := by unfold isQuilt; rw [k, Bool.and_false]; rfl
theorem isq_no3 {w h : Int} {sp : List Spot} {m : Int} (k : (sp.length : Int) ≠ w * h) : false = isQuilt w h sp m := by unfold isQuilt; rw [decide_eq_false k, Bool.and_false]; rfl
theorem isq_bad {w h : Int} {sp : List Spot} {m : Int} {i : Nat} {s : Spot} (hs : sp[i]? = some s) (k : spotOk m s = false) : false = isQuilt w h sp m := by unfold isQuilt; rw [all_no hs k, Bool.and_false]
theorem isq_end {w h : Int} {sp : List Spot} {m : Int} (h1 : within w 1 6 = true) (h2 : within h 1 6 = true) (h3 : (sp.length : Int) = w * h) (h4 : sp.all (spotOk m) = true) : true = isQuilt w h sp m := by
  unfold isQuilt; rw [h1, h2, decide_eq_true h3, h4]; rfl
theorem isq_parts {w h : Int} {sp : List Spot} {m : Int} (k : isQuilt w h sp m = true) : (1 ≤ w ∧ w ≤ 6) ∧ (1 ≤ h ∧ h ≤ 6) ∧ (sp.length : Int) = w * h ∧ sp.all (spotOk m) = true := by
  unfold isQuilt at k
  simp only [Bool.and_eq_true, within_iff, decide_eq_true_iff] at k
  exact ⟨k.1.1.1, k.1.1.2, k.1.2, k.2⟩
theorem qu_no1 {w h : Int} {sp : List Spot} {bs : List Blk} (k : isQuilt w h sp ((bs.length : Int) - 1) = false) : false = quiltOk w h sp bs := by unfold quiltOk; rw [k]; rfl
theorem qu_no2 {w h : Int} {sp : List Spot} {bs : List Blk} (k : within (bs.length : Int) 1 6 = false) : false = quiltOk w h sp bs := by unfold quiltOk; rw [k, Bool.and_false]; rfl
theorem qu_bad {w h : Int} {sp : List Spot} {bs : List Blk} {i : Nat} {b : Blk} (hs : bs[i]? = some b) (k : blkOk (size0 bs) b = false) : false = quiltOk w h sp bs := by unfold quiltOk; rw [all_no hs k, Bool.and_false]
theorem qu_end {w h : Int} {sp : List Spot} {bs : List Blk} (h1 : isQuilt w h sp ((bs.length : Int) - 1) = true) (h2 : within (bs.length : Int) 1 6 = true) (h3 : bs.all (blkOk (size0 bs)) = true) : true = quiltOk w h sp bs := by
  unfold quiltOk; rw [h1, h2, h3]; rfl
theorem qu_parts {w h : Int} {sp : List Spot} {bs : List Blk} (k : quiltOk w h sp bs = true) : isQuilt w h sp ((bs.length : Int) - 1) = true ∧ (1 ≤ (bs.length : Int) ∧ (bs.length : Int) ≤ 6) ∧ bs.all (blkOk (size0 bs)) = true := by
  unfold quiltOk at k
  simp only [Bool.and_eq_true, within_iff] at k
  exact ⟨k.1.1, k.1.2, k.2⟩
theorem side_bd {w h : Int} (h1 : 1 ≤ w) (h2 : w ≤ 6) (h3 : 1 ≤ h) (h4 : h ≤ 6) : 1 ≤ w * h ∧ w * h ≤ 36 := by
  have a : 1 * 1 ≤ w * h := Int.mul_le_mul h1 h3 (by decide) (by omega)
  have b : w * h ≤ 6 * 6 := Int.mul_le_mul h2 h4 (by omega) (by decide)
  omega
theorem size0_at {bs : List Blk} {s : Int} {cs : List Cell} (h : bs[0]? = some (s, cs)) : size0 bs = s := by unfold size0; rw [List.getD_eq_getElem?_getD, h]; rfl

set_option maxRecDepth 100000 in
theorem isQuiltI_any (w h : Int) (A : Option Addr) (n c : Nat) (sp : List Spot) (m : Int) (W : World) (hR : Rd W A n 2 sp spotC) (hN : n ≤ 1048576) :
    Calls Try.prog 57 #[.agg #[.int .i64 w, .int .i64 h, .slice A n c], .int .i64 m] W fun e w' => e = .returned (.bool (isQuilt w h sp m)) ∧ Below W.heap.size W w' := by
  have HLEN := Lib.hid hR.len
  rcases h1 : within w 1 6 with _ | _
  · have HN := Lib.hid (isq_no1 (h := h) (sp := sp) (m := m) h1)
    go_enter Try.func57, Try.ntmps57
    go_wp2_with (first | (go_at_call 48; refine (within_any _ _ _ _).mono ?_; rintro e w' ⟨rfl, rfl⟩))
    go_ret
    exact ⟨ret_b HN.out, by (repeat (first | exact Below.refl _ _ | assumption | (refine Below.drew ?_) | (refine below_drewN ?_ _) | (refine Below.alloc ?_ (by first | exact Nat.le_refl _ | (simp; done) | (simp; omega) | omega) _) | (refine Below.setCell ?_ (by first | exact Nat.le_refl _ | (simp; done) | (simp; omega) | omega) _) | (refine Below.trans ?_ (Below.mono (by assumption) (by first | exact Nat.le_refl _ | (simp; done) | (simp; omega) | omega)))))⟩
  rcases h2 : within h 1 6 with _ | _
  · have HN := Lib.hid (isq_no2 (w := w) (sp := sp) (m := m) h2)
    go_enter Try.func57, Try.ntmps57
    go_wp2_with (first | (go_at_call 48; refine (within_any _ _ _ _).mono ?_; rintro e w' ⟨rfl, rfl⟩))
    go_ret
    exact ⟨ret_b HN.out, by (repeat (first | exact Below.refl _ _ | assumption | (refine Below.drew ?_) | (refine below_drewN ?_ _) | (refine Below.alloc ?_ (by first | exact Nat.le_refl _ | (simp; done) | (simp; omega) | omega) _) | (refine Below.setCell ?_ (by first | exact Nat.le_refl _ | (simp; done) | (simp; omega) | omega) _) | (refine Below.trans ?_ (Below.mono (by assumption) (by first | exact Nat.le_refl _ | (simp; done) | (simp; omega) | omega)))))⟩
  have hwb := within_iff.1 h1
  have hhb := within_iff.1 h2
  have hsq := side_bd hwb.1 hwb.2 hhb.1 hhb.2
  by_cases h3 : (n : Int) = w * h
  · have H1 := Lib.hid h1
    have H2 := Lib.hid h2
    have H3 := Lib.hid (show (sp.length : Int) = w * h by rw [HLEN.out]; exact h3)
    have hsn : w * h = (n : Int) := h3.symm
    have hn36 : n ≤ 36 := by omega
    clear h3
    obtain ⟨jb, hjb⟩ : ∃ j, Hid (j = W.heap.size) := ⟨_, rfl⟩
    have e0 : (W.alloc (.cells #[.int .i64 w, .int .i64 h, .slice A n c] 58)).cell? ⟨jb, 2, none⟩ = some (.slice A n c) := by rw [hjb.out, cell_of_row _ _ _ _ _ _ (heap_alloc_new W _)]; rfl
    have hR1 : Rd (W.alloc (.cells #[.int .i64 w, .int .i64 h, .slice A n c] 58)) A n 2 sp spotC := hR.below ((Below.refl _ _).alloc (Nat.le_refl _) _)
    have hBW : Below W.heap.size W (W.alloc (.cells #[.int .i64 w, .int .i64 h, .slice A n c] 58)) := (Below.refl _ _).alloc (Nat.le_refl _) _
    have hsW : W.heap.size ≤ (W.alloc (.cells #[.int .i64 w, .int .i64 h, .slice A n c] 58)).heap.size := by simp
    go_enter Try.func57, Try.ntmps57
    go_wp2_with (first | (go_at_call 48; refine (within_any _ _ _ _).mono ?_; rintro e w' ⟨rfl, rfl⟩))
    try rw [← hjb.out]
    generalize W.alloc (.cells #[.int .i64 w, .int .i64 h, .slice A n c] 58) = W1 at e0 hR1 hBW hsW ⊢
    clear hR h1 h2 hsn
    go_loopw [31] (fun i wr => ∃ k : Nat, k ≤ n ∧ i = .int .i64 (k : Int) ∧ Hid ((sp.take k).all (spotOk m) = true) ∧ Below W1.heap.size W1 wr) (fun i _ => n - (intOf i).toNat)
    case atStart => exact ⟨0, Nat.zero_le _, rfl, by simp [Hid], Below.refl _ _⟩
    case round =>
      obtain ⟨k, hk, rfl, hall, hB⟩ := hrel
      have hz := hB.size
      by_cases hlt : k < n
      · obtain ⟨b, off, x, rfl, hbW, hx, g0, g1⟩ := hR1.spot hlt hB
        have HX := Lib.hid hx
        clear hx
        obtain ⟨x0, x1⟩ := x
        simp only at g0 g1
        rcases c0 : within x0 0 m with _ | _
        · have HC : Hid (spotOk m ⟨x0, x1⟩ = false) := by show spotOk m ⟨x0, x1⟩ = false; unfold spotOk; simp only; rw [c0]; rfl
          go_wp2_with (first | (go_at_call 48; refine (within_any _ _ _ _).mono ?_; rintro e w' ⟨rfl, rfl⟩))
          go_ret
          exact ⟨ret_b (isq_bad HX.out HC.out), hBW.trans (Below.mono (B := W1.heap.size) (by (repeat (first | exact Below.refl _ _ | assumption | (refine Below.drew ?_) | (refine below_drewN ?_ _) | (refine Below.alloc ?_ (by first | exact Nat.le_refl _ | (simp; done) | (simp; omega) | omega) _) | (refine Below.setCell ?_ (by first | exact Nat.le_refl _ | (simp; done) | (simp; omega) | omega) _) | (refine Below.trans ?_ (Below.mono (by assumption) (by first | exact Nat.le_refl _ | (simp; done) | (simp; omega) | omega)))))) hsW)⟩
        rcases c1 : within x1 0 7 with _ | _
        · have HC : Hid (spotOk m ⟨x0, x1⟩ = false) := by show spotOk m ⟨x0, x1⟩ = false; unfold spotOk; simp only; rw [c1, Bool.and_false]
          go_wp2_with (first | (go_at_call 48; refine (within_any _ _ _ _).mono ?_; rintro e w' ⟨rfl, rfl⟩))
          go_ret
          exact ⟨ret_b (isq_bad HX.out HC.out), hBW.trans (Below.mono (B := W1.heap.size) (by (repeat (first | exact Below.refl _ _ | assumption | (refine Below.drew ?_) | (refine below_drewN ?_ _) | (refine Below.alloc ?_ (by first | exact Nat.le_refl _ | (simp; done) | (simp; omega) | omega) _) | (refine Below.setCell ?_ (by first | exact Nat.le_refl _ | (simp; done) | (simp; omega) | omega) _) | (refine Below.trans ?_ (Below.mono (by assumption) (by first | exact Nat.le_refl _ | (simp; done) | (simp; omega) | omega)))))) hsW)⟩
        have HC : Hid (spotOk m ⟨x0, x1⟩ = true) := by show spotOk m ⟨x0, x1⟩ = true; unfold spotOk; simp only; rw [c0, c1]; rfl
        go_wp2_with (first | (go_at_call 48; refine (within_any _ _ _ _).mono ?_; rintro e w' ⟨rfl, rfl⟩))
        go_roundw
        case rel => exact ⟨k + 1, by omega, by go_num, all_take_succ HX.out hall.out HC.out, by (repeat (first | exact Below.refl _ _ | assumption | (refine Below.drew ?_) | (refine below_drewN ?_ _) | (refine Below.alloc ?_ (by first | exact Nat.le_refl _ | (simp; done) | (simp; omega) | omega) _) | (refine Below.setCell ?_ (by first | exact Nat.le_refl _ | (simp; done) | (simp; omega) | omega) _) | (refine Below.trans ?_ (Below.mono (by assumption) (by first | exact Nat.le_refl _ | (simp; done) | (simp; omega) | omega)))))⟩
        case measure => simp [intOf]; omega
      · obtain rfl : k = n := by omega
        have HN := Lib.hid (isq_end H1.out H2.out H3.out (by have := hall.out; rwa [List.take_of_length_le (Nat.le_of_eq HLEN.out)] at this))
        go_wp2
        go_ret
        exact ⟨ret_b HN.out, hBW.trans (hB.mono hsW)⟩
  · have HN := Lib.hid (isq_no3 (m := m) (show (sp.length : Int) ≠ w * h by rw [HLEN.out]; exact h3))
    have h3' : ((n : Int) == w * h) = false := by rw [beq_eq_false_iff_ne]; exact h3
    clear h3
    go_enter Try.func57, Try.ntmps57
    go_wp2_with (first | (go_at_call 48; refine (within_any _ _ _ _).mono ?_; rintro e w' ⟨rfl, rfl⟩))
    go_ret
    exact ⟨ret_b HN.out, by (repeat (first | exact Below.refl _ _ | assumption | (refine Below.drew ?_) | (refine below_drewN ?_ _) | (refine Below.alloc ?_ (by first | exact Nat.le_refl _ | (simp; done) | (simp; omega) | omega) _) | (refine Below.setCell ?_ (by first | exact Nat.le_refl _ | (simp; done) | (simp; omega) | omega) _) | (refine Below.trans ?_ (Below.mono (by assumption) (by first | exact Nat.le_refl _ | (simp; done) | (simp; omega) | omega)))))⟩

theorem keepd {w : World} {a : Addr} {v : Value} (h : w.cell? a = some v) : w.drew.cell? a = some v := h
theorem keepd1 {w w5 : World} {a : Addr} {v : Value} (h : w.cell? a = some v) (hb : Below w.drew.heap.size w.drew w5) : w5.cell? a = some v := keepcell (w := w.drew) h hb
theorem belowd {w w5 : World} (hb : Below w.drew.heap.size w.drew w5) : Below w.heap.size w w5 := ⟨hb.os, hb.tape, hb.output, hb.size, hb.block⟩

set_option maxRecDepth 100000 in
set_option maxHeartbeats 1000000 in
theorem quiltI_any (w h : Int) (A : Option Addr) (n c : Nat) (sp : List Spot) (B : Option Addr) (m d : Nat) (bs : List Blk) (W : World) (hR : Rd W A n 2 sp spotC) (hN : n ≤ 1048576) (hS : RdB W B m bs) (hM : m ≤ 1048576) (hr : ∀ r ∈ bs, r.2.length ≤ 1048576) :
    Calls Try.prog 36 #[.agg #[.int .i64 w, .int .i64 h, .slice A n c], .slice B m d] W fun e w' => e = .returned (.bool (quiltOk w h sp bs)) ∧ Below W.heap.size W w' := by
  have HLB := Lib.hid hS.len
  obtain ⟨jb, hjb⟩ : ∃ j, Hid (j = W.heap.size) := ⟨_, rfl⟩
  have hR1 : Rd (W.alloc (.cells #[.int .i64 w, .int .i64 h, .slice A n c] 58)) A n 2 sp spotC := hR.below ((Below.refl _ _).alloc (Nat.le_refl _) _)
  have hS1 : RdB (W.alloc (.cells #[.int .i64 w, .int .i64 h, .slice A n c] 58)) B m bs := hS.below ((Below.refl _ _).alloc (Nat.le_refl _) _)
  have hBW : Below W.heap.size W (W.alloc (.cells #[.int .i64 w, .int .i64 h, .slice A n c] 58)) := (Below.refl _ _).alloc (Nat.le_refl _) _
  have hsW : W.heap.size ≤ (W.alloc (.cells #[.int .i64 w, .int .i64 h, .slice A n c] 58)).heap.size := by simp
  rcases h1 : isQuilt w h sp ((m : Int) - 1) with _ | _
  · have HN := Lib.hid (qu_no1 (w := w) (h := h) (sp := sp) (bs := bs) (by rw [HLB.out]; exact h1))
    go_enter Try.func36, Try.ntmps36
    go_wp2_with (first | (go_at_call 57; refine (isQuiltI_any _ _ _ _ _ sp _ _ hR1 hN).mono ?_; rintro e w1 ⟨rfl, hb1⟩; rw [h1]) | (go_at_call 48; refine (within_any _ _ _ _).mono ?_; rintro e w' ⟨rfl, rfl⟩))
    go_ret
    exact ⟨ret_b HN.out, hBW.trans (Below.mono (by (repeat (first | exact Below.refl _ _ | assumption | (refine Below.drew ?_) | (refine below_drewN ?_ _) | (refine Below.alloc ?_ (by first | exact Nat.le_refl _ | (simp; done) | (simp; omega) | omega) _) | (refine Below.setCell ?_ (by first | exact Nat.le_refl _ | (simp; done) | (simp; omega) | omega) _) | (refine Below.trans ?_ (Below.mono (by assumption) (by first | exact Nat.le_refl _ | (simp; done) | (simp; omega) | omega)))))) hsW)⟩
  rcases h2 : within (m : Int) 1 6 with _ | _
  · have HN := Lib.hid (qu_no2 (w := w) (h := h) (sp := sp) (bs := bs) (by rw [HLB.out]; exact h2))
    go_enter Try.func36, Try.ntmps36
    go_wp2_with (first | (go_at_call 57; refine (isQuiltI_any _ _ _ _ _ sp _ _ hR1 hN).mono ?_; rintro e w1 ⟨rfl, hb1⟩; rw [h1]) | (go_at_call 48; refine (within_any _ _ _ _).mono ?_; rintro e w' ⟨rfl, rfl⟩))
    go_ret
    exact ⟨ret_b HN.out, hBW.trans (Below.mono (by (repeat (first | exact Below.refl _ _ | assumption | (refine Below.drew ?_) | (refine below_drewN ?_ _) | (refine Below.alloc ?_ (by first | exact Nat.le_refl _ | (simp; done) | (simp; omega) | omega) _) | (refine Below.setCell ?_ (by first | exact Nat.le_refl _ | (simp; done) | (simp; omega) | omega) _) | (refine Below.trans ?_ (Below.mono (by assumption) (by first | exact Nat.le_refl _ | (simp; done) | (simp; omega) | omega)))))) hsW)⟩
  have hmb := within_iff.1 h2
  obtain ⟨b0, off0, s0, A0, n0, c0, cs0, eB, hbW0, hr0, k0, _⟩ := hS1.at_ (k := 0) (by omega) (Below.refl _ _)
  have HS0 := Lib.hid (size0_at hr0)
  rw [Nat.zero_mul, Nat.add_zero] at k0
  have H1 := Lib.hid h1
  have H2 := Lib.hid h2
  subst eB
  clear hr0
  go_enter Try.func36, Try.ntmps36
  go_wp2_with (first | (go_at_call 57; refine (isQuiltI_any _ _ _ _ _ sp _ _ hR1 hN).mono ?_; rintro e w1 ⟨rfl, hb1⟩; rw [h1]) | (go_at_call 48; refine (within_any _ _ _ _).mono ?_; rintro e w' ⟨rfl, rfl⟩))
  replace hS1 := hS1.below hb1
  replace k0 := keepcell k0 hb1
  have hB1 := hBW.trans (hb1.mono hsW)
  have hs1 := hB1.size
  have hmn : m ≤ 6 := by omega
  have hm0 : (0 : Int) < (m : Int) := by omega
  have hm1 : 0 < m := by omega
  have hm2 : (decide (0 < m)) = true := decide_eq_true hm1
  clear hb1 hR1 hR hBW hsW h1 h2
  go_loopw [21] (fun i wr => ∃ k : Nat, k ≤ m ∧ i = .int .i64 (k : Int) ∧ Hid ((bs.take k).all (blkOk (size0 bs)) = true) ∧ Below w1.heap.size w1 wr) (fun i _ => m - (intOf i).toNat)
  case atStart => exact ⟨0, Nat.zero_le _, rfl, by simp [Hid], Below.refl _ _⟩
  case round =>
    obtain ⟨k, hk, rfl, hall, hB⟩ := hrel
    have hz := hB.size
    have k1 := keepcell k0 hB
    by_cases hlt : k < m
    · obtain ⟨b, off, s, A', n', c', cs, eB, hbW, hrk, g0, g1, hnc, hrl, hRc⟩ := hS1.at_ hlt hB
      injection eB with eB
      injection eB with e1 e2 _
      subst e1
      subst e2
      have HX := Lib.hid hrk
      have hn' : n' ≤ 1048576 := by rw [← hrl]; exact hr _ (List.mem_of_getElem? hrk)
      clear hrk hrl
      have q0 : (wr.alloc (.cells #[.int .i64 s, .slice A' n' c'] 30)).cell? ⟨wr.heap.size, 0, none⟩ = some (.int .i64 s) := by rw [cell_of_row _ _ _ _ _ _ (heap_alloc_new wr _)]; rfl
      have q1 : (wr.alloc (.cells #[.int .i64 s, .slice A' n' c'] 30)).cell? ⟨wr.heap.size, 1, none⟩ = some (.slice A' n' c') := by rw [cell_of_row _ _ _ _ _ _ (heap_alloc_new wr _)]; rfl
      have hba : Below wr.heap.size wr (wr.alloc (.cells #[.int .i64 s, .slice A' n' c'] 30)) := (Below.refl _ _).alloc (Nat.le_refl _) _
      have k2 := keepcell k1 hba
      have hRa := hRc.below hba
      have hBa := hB.trans (hba.mono hz)
      go_wp2_with fail
      clear hba g0 g1 k1 hRc
      generalize wr.alloc (.cells #[.int .i64 s, .slice A' n' c'] 30) = wa at q0 q1 k2 hRa hBa ⊢
      generalize wr.heap.size = j at q0 q1 ⊢
      clear hB hz
      have hza := hBa.size
      rcases hbk : blockOk s cs with _ | _
      · have HN := Lib.hid (qu_bad (w := w) (h := h) (sp := sp) HX.out (show blkOk (size0 bs) (s, cs) = false by unfold blkOk; simp only; rw [hbk]; rfl))
        first | (go_region_with (first | (go_at_call 47; refine (blockOkI_any s A' n' c' cs _ (hRa.below ((Below.refl _ _).drew)) hn').mono ?_; rintro e w5 ⟨rfl, hb5⟩; rw [hbk]))) | fail
        all_goals
          have hB5 := hBa.trans ((belowd hb5).mono hza)
          go_wp2
          go_ret
          exact ⟨ret_b HN.out, hB1.trans (hB5.mono hs1)⟩
      · have HBK := Lib.hid hbk
        rcases hss : (s == s0) with _ | _
        · have HN := Lib.hid (qu_bad (w := w) (h := h) (sp := sp) HX.out (show blkOk (size0 bs) (s, cs) = false by unfold blkOk; simp only; rw [HS0.out, hss, Bool.and_false]))
          have hsn : ¬ s = s0 := fun e => by rw [e] at hss; simp at hss
          first | (go_region_held3 (fun v => v.cell? ⟨j, 0, none⟩ = some (.int .i64 s) ∧ v.cell? ⟨j, 1, none⟩ = some (.slice A' n' c') ∧ v.cell? ⟨b0, off0, none⟩ = some (.int .i64 s0)) (first | exact ⟨keepd q0, keepd q1, keepd k2⟩ | exact ⟨keepd1 q0 hb5, keepd1 q1 hb5, keepd1 k2 hb5⟩) (first | (go_at_call 47; refine (blockOkI_any s A' n' c' cs _ (hRa.below ((Below.refl _ _).drew)) hn').mono ?_; rintro e w5 ⟨rfl, hb5⟩; rw [hbk]))) | fail
          all_goals
            have hB5 := hBa.trans ((belowd hb5).mono hza)
            go_wp2
            go_ret
            exact ⟨ret_b HN.out, hB1.trans (hB5.mono hs1)⟩
        · have HC := Lib.hid (show blkOk (size0 bs) (s, cs) = true by unfold blkOk; simp only; rw [HBK.out, HS0.out, hss]; rfl)
          obtain rfl : s = s0 := beq_iff_eq.1 hss
          first | (go_region_held3 (fun v => v.cell? ⟨j, 0, none⟩ = some (.int .i64 s) ∧ v.cell? ⟨j, 1, none⟩ = some (.slice A' n' c') ∧ v.cell? ⟨b0, off0, none⟩ = some (.int .i64 s)) (first | exact ⟨keepd q0, keepd q1, keepd k2⟩ | exact ⟨keepd1 q0 hb5, keepd1 q1 hb5, keepd1 k2 hb5⟩) (first | (go_at_call 47; refine (blockOkI_any s A' n' c' cs _ (hRa.below ((Below.refl _ _).drew)) hn').mono ?_; rintro e w5 ⟨rfl, hb5⟩; rw [hbk]))) | fail
          all_goals
            have hB5 := hBa.trans ((belowd hb5).mono hza)
            go_wp2
            go_roundw
            case rel => exact ⟨k + 1, by omega, by go_num, all_take_succ HX.out hall.out HC.out, hB5⟩
            case measure => simp [intOf]; omega
    · obtain rfl : k = m := by omega
      have HN := Lib.hid (qu_end (by rw [HLB.out]; exact H1.out) (by rw [HLB.out]; exact H2.out) (by have := hall.out; rwa [List.take_of_length_le (Nat.le_of_eq HLB.out)] at this))
      go_wp2
      go_ret
      exact ⟨ret_b HN.out, hB1.trans (hB.mono hs1)⟩

end Go.Proofs.Ytkbpehklfjnjjaa
