/-
  Contracts over cuts: all cuts of a layout, by the reference.
-/
import Derived.Test.YtmjdgplkcocgmaaKnoD
import Derived.Test.YtmjdgplkcocgmaaUniB
set_option linter.unusedVariables false
namespace Go.Proofs.Ytmjdgplkcocgmaa
open Go.RowKit

set_option maxRecDepth 100000 in
set_option maxHeartbeats 2000000 in
theorem cutsOfS_any (w h : Int) (A : Option Addr) (n c : Nat) (ps : List Patch) (W : World) (hR : Rd W A n 5 ps patchC) (hN : n ≤ 1048576) :
    Calls Try.prog 60 #[.agg #[.int .i64 w, .int .i64 h, .slice A n c]] W (Made W (cutsOf w h ps).length 2 (cutsOf w h ps) cutC) := by
  obtain ⟨jb, hjb⟩ : ∃ j, Hid (W.heap.size = j) := ⟨_, rfl⟩
  obtain ⟨wa, hwa⟩ : ∃ v, Hid (W.alloc (.cells #[.int .i64 w, .int .i64 h, .slice A n c] 30) = v) := ⟨_, rfl⟩
  have e0 : wa.cell? ⟨jb, 0, none⟩ = some (.int .i64 w) := by rw [← hwa.out, ← hjb.out, cell_of_row _ _ _ _ _ _ (heap_alloc_new W _)]; rfl
  have e1 : wa.cell? ⟨jb, 1, none⟩ = some (.int .i64 h) := by rw [← hwa.out, ← hjb.out, cell_of_row _ _ _ _ _ _ (heap_alloc_new W _)]; rfl
  have e2 : wa.cell? ⟨jb, 2, none⟩ = some (.slice A n c) := by rw [← hwa.out, ← hjb.out, cell_of_row _ _ _ _ _ _ (heap_alloc_new W _)]; rfl
  have ba : Below W.heap.size W wa := by rw [← hwa.out]; exact (Below.refl _ _).alloc (Nat.le_refl _) _
  have sa : wa.heap.size = W.heap.size + 1 := by rw [← hwa.out]; simp
  obtain ⟨jl, hjl⟩ : ∃ j, Hid (wa.heap.size = j) := ⟨_, rfl⟩
  have HJL : Hid (W.heap.size + 1 = jl) := by show _ = _; rw [← hjl.out, sa]
  obtain ⟨wl, hwl⟩ : ∃ v, Hid (wa.alloc (.cells #[] 72) = v) := ⟨_, rfl⟩
  have hacc : Acc wl jl 72 2 (.slice (some ⟨jl, 0, none⟩) 0 0) ([] : List Cut) cutC := by rw [← hwl.out]; exact Acc.lit0 wa jl 72 2 cutC (Nat.le_of_eq hjl.out.symm) hjl.out.symm
  have bl : Below wa.heap.size wa wl := by rw [← hwl.out]; exact (Below.refl _ _).alloc (Nat.le_refl _) _
  have sl : wl.heap.size = wa.heap.size + 1 := by rw [← hwl.out]; simp
  replace e0 := keepcell e0 bl
  replace e1 := keepcell e1 bl
  replace e2 := keepcell e2 bl
  have hBl := ba.trans (bl.mono ba.size)
  have hjbl : jb < jl := by rw [← hjb.out, ← HJL.out]; omega
  have hWl : W.heap.size ≤ jl := by rw [← HJL.out]; omega
  have hjlz : jl < wl.heap.size := by rw [← hjl.out, sl]; omega
  clear sa ba sl bl
  have hRl := hR.below hBl
  go_enter Try.func60, Try.ntmps60
  go_wp2_with (first | rw [hwa.out] | rw [hwl.out] | rw [hjl.out] | rw [HJL.out] | rw [hjb.out])
  refine (layoutS_any _ _ _ _ _ ps _ hRl hN).mono ?_
  rintro e w1 ⟨rfl, hb1⟩
  replace e0 := keepcell e0 hb1
  replace e1 := keepcell e1 hb1
  replace e2 := keepcell e2 hb1
  replace hacc := hacc.below hb1
  have hB1 := hBl.trans (hb1.mono hBl.size)
  have hj1 := Nat.lt_of_lt_of_le hjlz hb1.size
  clear hb1 hRl hBl hjlz
  rcases hl : layoutOk w h ps with _ | _
  · have HN := Lib.hid (cuts_none hl)
    go_wp2
    go_ret
    rw [HN.out]
    exact hacc.made cutC_len hWl hB1 rfl
  clear hl
  go_wp2
  go_loopw [3, 4] (fun o i wr => ∃ k : Nat, k ≤ 24 ∧ i = .int .i64 (k : Int) ∧ Acc wr jl 72 2 o (cutsUp w h ps k) cutC ∧ wr.cell? ⟨jb, 0, none⟩ = some (.int .i64 w) ∧ wr.cell? ⟨jb, 1, none⟩ = some (.int .i64 h) ∧ wr.cell? ⟨jb, 2, none⟩ = some (.slice A n c) ∧ Below W.heap.size W wr ∧ jl < wr.heap.size) (fun _ i _ => 24 - (intOf i).toNat)
  case atStart => exact ⟨0, by omega, rfl, by simpa [cutsUp] using hacc, e0, e1, e2, hB1, hj1⟩
  case round =>
    clear hacc e0 e1 e2 hB1 hj1
    obtain ⟨p, hp, rfl, hacc, e0, e1, e2, hB, hjz⟩ := hrel
    have hz := hB.size
    by_cases hql : p < 24
    · obtain ⟨up, hup⟩ : ∃ b, Hid (b = decide (p < 12)) := ⟨_, rfl⟩
      obtain ⟨q, hq⟩ : ∃ q : Nat, Hid (q = p % 12) := ⟨_, rfl⟩
      have HCD : Hid ((⟨decide (p < 12), ((p % 12 : Nat) : Int)⟩ : Cut) = ⟨up, (q : Int)⟩) := by show _ = _; rw [hup.out, hq.out]
      have hup1 : decide ((p : Int) < 12) = up := by rw [hup.out, decide_eq_decide]; omega
      have hrem : (p : Int).tmod 12 = (q : Int) := by rw [hq.out, Int.tmod_eq_emod_of_nonneg (by omega)]; omega
      have hp24 : (p : Int) < 24 := by omega
      have hlen := cutsUp_len w h ps p hp
      obtain ⟨jq, hjq⟩ : ∃ j, Hid (wr.heap.size = j) := ⟨_, rfl⟩
      obtain ⟨wq, hwq⟩ : ∃ v, Hid (wr.alloc (.cells #[.bool up, .int .i64 (q : Int)] 72) = v) := ⟨_, rfl⟩
      have c0 : wq.cell? ⟨jq, 0, none⟩ = some (.bool up) := by rw [← hwq.out, ← hjq.out, cell_of_row _ _ _ _ _ _ (heap_alloc_new _ _)]; rfl
      have c1 : wq.cell? ⟨jq, 1, none⟩ = some (.int .i64 (q : Int)) := by rw [← hwq.out, ← hjq.out, cell_of_row _ _ _ _ _ _ (heap_alloc_new _ _)]; rfl
      have bq : Below wr.heap.size wr wq := by rw [← hwq.out]; exact (Below.refl _ _).alloc (Nat.le_refl _) _
      have g0 := keepcell e0 bq
      have g1 := keepcell e1 bq
      have g2 := keepcell e2 bq
      have hRq := (hR.below hB).below bq
      go_wp2_with (rw [hwq.out]; (try rw [hjq.out]))
      refine (isCutS_any _ _ _ _ _ ps _ _ _ hRq hN).mono ?_
      rintro e w5 ⟨rfl, hb5⟩
      have b5 := bq.trans (hb5.mono bq.size)
      replace e0 := keepcell e0 b5
      replace e1 := keepcell e1 b5
      replace e2 := keepcell e2 b5
      replace c0 := keepcell c0 hb5
      replace c1 := keepcell c1 hb5
      have hacc5 := hacc.below b5
      have hB5 := hB.trans (b5.mono hz)
      have hz5 := hB5.size
      have hj5 := Nat.lt_of_lt_of_le hjz b5.size
      have hjl5 : jl ≤ w5.heap.size := by omega
      clear g0 g1 g2 hRq hb5 b5 bq hacc hB hz hjz hup1 hrem
      rcases hc : isCut w h ps ⟨up, (q : Int)⟩ with _ | _
      · go_wp2
        go_roundw
        case rel => exact ⟨p + 1, by omega, by go_num, by rw [← cutsUp_no hql HCD.out hc]; exact hacc5, e0, e1, e2, hB5, hj5⟩
        case measure => simp [intOf]; omega
      · go_wp2_with (at_builtin; refine wpList_acc1 rfl _ _ 66 rfl jl 72 (.agg #[.bool false, .int .i64 0]) 2 16 Try.underlying66 infoCut rfl (by omega) _ _ cutC ⟨up, (q : Int)⟩ rfl hacc5 _ _ rfl _ rfl (by simp) rfl (by simp [cutC, Value.oneCell']) (by omega) (by omega) hjl5 ?_; intro v7 w7 hacc7 hgrow7 hat7)
        go_roundw
        case rel =>
          rw [cutsUp_yes hql HCD.out hc] at hacc7
          exact ⟨p + 1, by omega, by go_num, hacc7, near_of hacc5 hgrow7 e0 hjbl, near_of hacc5 hgrow7 e1 hjbl, near_of hacc5 hgrow7 e2 hjbl, hacc5.grow_below hB5 hgrow7 hWl hz5, Nat.lt_of_lt_of_le hj5 hgrow7.size⟩
        case measure => simp [intOf]; omega
    · obtain rfl : p = 24 := by omega
      go_wp2
      go_ret
      rw [cutsUp_end] at hacc
      exact hacc.made cutC_len hWl hB rfl

end Go.Proofs.Ytmjdgplkcocgmaa
