/-
  Contracts over cuts: the first part that can not be cut, by the program.
-/
import Derived.Test.YtmjdgplkcocgmaaKnoW
import Derived.Test.YtmjdgplkcocgmaaKnoH
import Derived.Test.YtmjdgplkcocgmaaZWords
set_option linter.unusedVariables false
set_option linter.unusedSimpArgs false
namespace Go.Proofs.Ytmjdgplkcocgmaa
open Go.RowKit

set_option maxRecDepth 100000 in
set_option maxHeartbeats 4000000 in
theorem knotI_N : ∀ (f : Nat) (w h : Int) (A : Option Addr) (n c : Nat) (ps : List Patch) (W : World), ps.length ≤ f → Rd W A n 5 ps patchC → n ≤ 1048576 →
    Calls Try.prog 46 #[.agg #[.int .i64 w, .int .i64 h, .slice A n c]] W (KnotOut W (firstKnot ⟨w, h, ps⟩)) := by
  intro f
  induction f with
  | zero =>
    intro w h A n c ps W hf hR hN
    have HLEN := Lib.hid hR.len
    obtain ⟨jb, hjb⟩ : ∃ j, Hid (W.heap.size = j) := ⟨_, rfl⟩
    obtain ⟨wa, hwa⟩ : ∃ v, Hid (W.alloc (.cells #[.int .i64 w, .int .i64 h, .slice A n c] 30) = v) := ⟨_, rfl⟩
    have e0 : wa.cell? ⟨jb, 0, none⟩ = some (.int .i64 w) := by rw [← hwa.out, ← hjb.out, cell_of_row _ _ _ _ _ _ (heap_alloc_new W _)]; rfl
    have e1 : wa.cell? ⟨jb, 1, none⟩ = some (.int .i64 h) := by rw [← hwa.out, ← hjb.out, cell_of_row _ _ _ _ _ _ (heap_alloc_new W _)]; rfl
    have e2 : wa.cell? ⟨jb, 2, none⟩ = some (.slice A n c) := by rw [← hwa.out, ← hjb.out, cell_of_row _ _ _ _ _ _ (heap_alloc_new W _)]; rfl
    have ba : Below W.heap.size W wa := by rw [← hwa.out]; exact (Below.refl _ _).alloc (Nat.le_refl _) _
    have sa : wa.heap.size = W.heap.size + 1 := by rw [← hwa.out]; simp
    obtain ⟨r2, hr2⟩ : ∃ j, Hid (wa.heap.size = j) := ⟨_, rfl⟩
    have HR2 : Hid (W.heap.size + 1 = r2) := by show _ = _; rw [← hr2.out, sa]
    obtain ⟨wb, hwb⟩ : ∃ v, Hid (wa.alloc (.cells #[.int .i64 0, .int .i64 0, .slice none 0 0] 30) = v) := ⟨_, rfl⟩
    have rr : wb.heap[r2]? = some (.cells #[.int .i64 0, .int .i64 0, .slice none 0 0] 30 (0, 0)) := by rw [← hwb.out, ← hr2.out]; exact heap_alloc_new wa _
    have bb : Below wa.heap.size wa wb := by rw [← hwb.out]; exact (Below.refl _ _).alloc (Nat.le_refl _) _
    replace e0 := keepcell e0 bb
    replace e1 := keepcell e1 bb
    replace e2 := keepcell e2 bb
    have hBb := ba.trans (bb.mono ba.size)
    have hRb := (hR.below ba).below bb
    have hr2W : W.heap.size ≤ r2 := by rw [← HR2.out]; omega
    have hr2b : r2 < wb.heap.size := heap_lt rr
    have hjr : jb < r2 := by rw [← HR2.out, ← hjb.out]; omega
    clear sa ba bb
    go_enter Try.func46, Try.ntmps46
    go_wp2_with (first | rw [hwa.out] | rw [hwb.out] | rw [hr2.out] | rw [HR2.out] | rw [hjb.out])
    refine (layoutI_any _ _ _ _ _ ps _ hRb hN).mono ?_
    rintro e w1 ⟨rfl, hb1⟩
    replace e0 := keepcell e0 hb1
    replace e1 := keepcell e1 hb1
    replace e2 := keepcell e2 hb1
    have hB1 := hBb.trans (hb1.mono hBb.size)
    have hs1 := hB1.size
    have hR1 := hRb.below hb1
    have rr1 := (hb1.block r2 hr2b).trans rr
    have hr21 := heap_lt rr1
    clear hb1 hRb hBb rr hr2b
    rcases hl : layoutOk w h ps with _ | _
    · have HN := Lib.hid (knot_none' (w := w) (h := h) (ps := ps) (.inl hl))
      have zz0 : w1.cell? ⟨r2, 0, none⟩ = some (.int .i64 0) := by rw [cell_of_row _ _ _ _ _ _ rr1]; rfl
      have zf0 : w1.frozen? ⟨r2, 0, none⟩ = false := frozen_of_row _ _ _ _ _ rr1
      have zz1 : w1.cell? ⟨r2, 1, none⟩ = some (.int .i64 0) := by rw [cell_of_row _ _ _ _ _ _ rr1]; rfl
      have zf1 : w1.frozen? ⟨r2, 1, none⟩ = false := frozen_of_row _ _ _ _ _ rr1
      have zz2 : w1.cell? ⟨r2, 2, none⟩ = some (.slice none 0 0) := by rw [cell_of_row _ _ _ _ _ _ rr1]; rfl
      have zf2 : w1.frozen? ⟨r2, 2, none⟩ = false := frozen_of_row _ _ _ _ _ rr1
      go_wp2
      rw [HN.out]
      refine bodyPost_ret (v := .tuple #[.agg #[.int .i64 0, .int .i64 0, .slice none 0 0], .bool false]) (by simp [results, Try.results46, go_sem, World.cell?_setCell_same', World.cell?_setCell_other, zz0, zz1, zz2]) rfl ⟨none, 0, 0, rfl, Nat.le_refl _, Own.nil _ _ _ _ _ _, below_set (below_set (below_set hB1 hr2W _) hr2W _) hr2W _⟩
    exact absurd (layout_parts hl).2.2.1.1 (by omega)
  | succ f ih =>
    intro w h A n c ps W hf hR hN
    have HLEN := Lib.hid hR.len
    obtain ⟨jb, hjb⟩ : ∃ j, Hid (W.heap.size = j) := ⟨_, rfl⟩
    obtain ⟨wa, hwa⟩ : ∃ v, Hid (W.alloc (.cells #[.int .i64 w, .int .i64 h, .slice A n c] 30) = v) := ⟨_, rfl⟩
    have e0 : wa.cell? ⟨jb, 0, none⟩ = some (.int .i64 w) := by rw [← hwa.out, ← hjb.out, cell_of_row _ _ _ _ _ _ (heap_alloc_new W _)]; rfl
    have e1 : wa.cell? ⟨jb, 1, none⟩ = some (.int .i64 h) := by rw [← hwa.out, ← hjb.out, cell_of_row _ _ _ _ _ _ (heap_alloc_new W _)]; rfl
    have e2 : wa.cell? ⟨jb, 2, none⟩ = some (.slice A n c) := by rw [← hwa.out, ← hjb.out, cell_of_row _ _ _ _ _ _ (heap_alloc_new W _)]; rfl
    have ba : Below W.heap.size W wa := by rw [← hwa.out]; exact (Below.refl _ _).alloc (Nat.le_refl _) _
    have sa : wa.heap.size = W.heap.size + 1 := by rw [← hwa.out]; simp
    obtain ⟨r2, hr2⟩ : ∃ j, Hid (wa.heap.size = j) := ⟨_, rfl⟩
    have HR2 : Hid (W.heap.size + 1 = r2) := by show _ = _; rw [← hr2.out, sa]
    obtain ⟨wb, hwb⟩ : ∃ v, Hid (wa.alloc (.cells #[.int .i64 0, .int .i64 0, .slice none 0 0] 30) = v) := ⟨_, rfl⟩
    have rr : wb.heap[r2]? = some (.cells #[.int .i64 0, .int .i64 0, .slice none 0 0] 30 (0, 0)) := by rw [← hwb.out, ← hr2.out]; exact heap_alloc_new wa _
    have bb : Below wa.heap.size wa wb := by rw [← hwb.out]; exact (Below.refl _ _).alloc (Nat.le_refl _) _
    replace e0 := keepcell e0 bb
    replace e1 := keepcell e1 bb
    replace e2 := keepcell e2 bb
    have hBb := ba.trans (bb.mono ba.size)
    have hRb := (hR.below ba).below bb
    have hr2W : W.heap.size ≤ r2 := by rw [← HR2.out]; omega
    have hr2b : r2 < wb.heap.size := heap_lt rr
    have hjr : jb < r2 := by rw [← HR2.out, ← hjb.out]; omega
    clear sa ba bb
    go_enter Try.func46, Try.ntmps46
    go_wp2_with (first | rw [hwa.out] | rw [hwb.out] | rw [hr2.out] | rw [HR2.out] | rw [hjb.out])
    refine (layoutI_any _ _ _ _ _ ps _ hRb hN).mono ?_
    rintro e w1 ⟨rfl, hb1⟩
    replace e0 := keepcell e0 hb1
    replace e1 := keepcell e1 hb1
    replace e2 := keepcell e2 hb1
    have hB1 := hBb.trans (hb1.mono hBb.size)
    have hs1 := hB1.size
    have hR1 := hRb.below hb1
    have rr1 := (hb1.block r2 hr2b).trans rr
    have hr21 := heap_lt rr1
    clear hb1 hRb hBb rr hr2b
    rcases hl : layoutOk w h ps with _ | _
    · have HN := Lib.hid (knot_none' (w := w) (h := h) (ps := ps) (.inl hl))
      have zz0 : w1.cell? ⟨r2, 0, none⟩ = some (.int .i64 0) := by rw [cell_of_row _ _ _ _ _ _ rr1]; rfl
      have zf0 : w1.frozen? ⟨r2, 0, none⟩ = false := frozen_of_row _ _ _ _ _ rr1
      have zz1 : w1.cell? ⟨r2, 1, none⟩ = some (.int .i64 0) := by rw [cell_of_row _ _ _ _ _ _ rr1]; rfl
      have zf1 : w1.frozen? ⟨r2, 1, none⟩ = false := frozen_of_row _ _ _ _ _ rr1
      have zz2 : w1.cell? ⟨r2, 2, none⟩ = some (.slice none 0 0) := by rw [cell_of_row _ _ _ _ _ _ rr1]; rfl
      have zf2 : w1.frozen? ⟨r2, 2, none⟩ = false := frozen_of_row _ _ _ _ _ rr1
      go_wp2
      rw [HN.out]
      refine bodyPost_ret (v := .tuple #[.agg #[.int .i64 0, .int .i64 0, .slice none 0 0], .bool false]) (by simp [results, Try.results46, go_sem, World.cell?_setCell_same', World.cell?_setCell_other, zz0, zz1, zz2]) rfl ⟨none, 0, 0, rfl, Nat.le_refl _, Own.nil _ _ _ _ _ _, below_set (below_set (below_set hB1 hr2W _) hr2W _) hr2W _⟩
    have HL := Lib.hid hl
    have hn12 := (layout_parts hl).2.2.1
    rw [HLEN.out] at hn12
    clear hl
    by_cases hn1 : n = 1
    · have HN := Lib.hid (knot_none' (w := w) (h := h) (ps := ps) (.inr (by rw [HLEN.out]; exact hn1)))
      have hn1' : ((n : Int) == 1) = true := by rw [hn1]; rfl
      clear hn1
      have zz0 : w1.cell? ⟨r2, 0, none⟩ = some (.int .i64 0) := by rw [cell_of_row _ _ _ _ _ _ rr1]; rfl
      have zf0 : w1.frozen? ⟨r2, 0, none⟩ = false := frozen_of_row _ _ _ _ _ rr1
      have zz1 : w1.cell? ⟨r2, 1, none⟩ = some (.int .i64 0) := by rw [cell_of_row _ _ _ _ _ _ rr1]; rfl
      have zf1 : w1.frozen? ⟨r2, 1, none⟩ = false := frozen_of_row _ _ _ _ _ rr1
      have zz2 : w1.cell? ⟨r2, 2, none⟩ = some (.slice none 0 0) := by rw [cell_of_row _ _ _ _ _ _ rr1]; rfl
      have zf2 : w1.frozen? ⟨r2, 2, none⟩ = false := frozen_of_row _ _ _ _ _ rr1
      go_wp2
      rw [HN.out]
      refine bodyPost_ret (v := .tuple #[.agg #[.int .i64 0, .int .i64 0, .slice none 0 0], .bool false]) (by simp [results, Try.results46, go_sem, World.cell?_setCell_same', World.cell?_setCell_other, zz0, zz1, zz2]) rfl ⟨none, 0, 0, rfl, Nat.le_refl _, Own.nil _ _ _ _ _ _, below_set (below_set (below_set hB1 hr2W _) hr2W _) hr2W _⟩
    have hn1' : ((n : Int) == 1) = false := by rw [beq_eq_false_iff_ne]; omega
    have hn1n : ¬ (n : Int) = 1 := by omega
    have HN1 := Lib.hid (show ps.length ≠ 1 by rw [HLEN.out]; exact hn1)
    clear hn1
    go_wp2_with fail
    refine (cutsOfI_any _ _ _ _ _ ps _ hR1 hN).mono ?_
    rintro e w2 ⟨C2, k2, rfl, hk2, hO2, hb2⟩
    replace e0 := keepcell e0 hb2
    replace e1 := keepcell e1 hb2
    replace e2 := keepcell e2 hb2
    have hB2 := hB1.trans (hb2.mono hs1)
    have hs2 := hB2.size
    have hR2 := hR1.below hb2
    have rr2 := (hb2.block r2 hr21).trans rr1
    have hr22 := heap_lt rr2
    clear hb2 hB1 hs1 hR1 hn1' hn1n rr1 hr21
    have hCR := hO2.rd
    clear hO2
    rcases hcs : cutsOf w h ps with _ | ⟨ct, cs⟩
    · have HN := Lib.hid (knot_here (l := ⟨w, h, ps⟩) HL.out HN1.out hcs)
      rw [hcs] at hCR
      obtain ⟨b, off, x, rfl, _⟩ := hR2.patch (k := 0) (by omega) (Below.refl _ _)
      have hn0 : 0 < n := by omega
      clear hCR
      go_wp2
      refine wp_region_held_drew (S := (fun v => v.cell? ⟨jb, 0, none⟩ = some (.int .i64 w) ∧ v.cell? ⟨jb, 1, none⟩ = some (.int .i64 h) ∧ v.cell? ⟨jb, 2, none⟩ = some (.slice (some ⟨b, off, none⟩) n c))) (by kernel_rfl) ⟨keep_drew e0, keep_drew e1, keep_drew e2⟩ (fun hHeld => ?_)
      have hB0 : Below W.heap.size W (World.drew w2) := hB2.drew
      have hR0 : Rd (World.drew w2) (some ⟨b, off, none⟩) n 5 ps patchC := hR2
      have rr0 : (World.drew w2).heap[r2]? = _ := rr2
      obtain ⟨v0, hv0⟩ : ∃ v, Hid (World.drew w2 = v) := ⟨_, rfl⟩
      rw [hv0.out] at hHeld hB0 hR0 rr0 ⊢
      clear e0 e1 e2 hR2 hB2 rr2 hs2 hr22
      have hs0 := hB0.size
      have hr20 := heap_lt rr0
      (refine take_yes (i := 0) (d := some 24) (v := ?_) rfl rfl (by kernel_rfl) (by kernel_rfl) (by kernel_rfl) (by rfl) (fun _ _ _ h => h) ?_ (by assumption) ?_; rotate_left; focus ((intro w' hSw; (try dsimp only at hSw); go_simp) <;> with_reducible rfl)); (try simp only [Act.put, List.setIfInBounds_toArray, List.set_cons_zero, List.set_cons_succ])
      (refine take_yes (i := 1) (d := some 25) (v := ?_) rfl rfl (by kernel_rfl) (by kernel_rfl) (by kernel_rfl) (by rfl) (fun _ _ _ h => h) ?_ (by assumption) ?_; rotate_left; focus ((intro w' hSw; (try dsimp only at hSw); go_simp) <;> with_reducible rfl)); (try simp only [Act.put, List.setIfInBounds_toArray, List.set_cons_zero, List.set_cons_succ])
      (refine take_yes (i := 2) (d := some 26) (v := ?_) rfl rfl (by kernel_rfl) (by kernel_rfl) (by kernel_rfl) (by rfl) (fun _ _ _ h => h) ?_ (by assumption) ?_; rotate_left; focus ((intro w' hSw; (try dsimp only at hSw); go_simp) <;> with_reducible rfl)); (try simp only [Act.put, List.setIfInBounds_toArray, List.set_cons_zero, List.set_cons_succ])
      (refine take_yes (i := 3) (d := some 27) (v := ?_) rfl rfl (by kernel_rfl) (by kernel_rfl) (by kernel_rfl) (by rfl) (fun _ _ _ h => h) ?_ (by assumption) ?_; rotate_left; focus ((intro w' hSw; (try dsimp only at hSw); go_simp) <;> with_reducible rfl)); (try simp only [Act.put, List.setIfInBounds_toArray, List.set_cons_zero, List.set_cons_succ])
      (refine take_yes (i := 5) (d := some 29) (v := ?_) rfl rfl (by kernel_rfl) (by kernel_rfl) (by kernel_rfl) (by rfl) (fun _ _ _ h => h) ?_ (by assumption) ?_; rotate_left; focus ((intro w' hSw; (try dsimp only at hSw); go_simp) <;> with_reducible rfl)); (try simp only [Act.put, List.setIfInBounds_toArray, List.set_cons_zero, List.set_cons_succ])
      (refine take_yes (i := 6) (d := some 30) (v := ?_) rfl rfl (by kernel_rfl) (by kernel_rfl) (by kernel_rfl) (by rfl) (fun _ _ _ h => h) ?_ (by assumption) ?_; rotate_left; focus ((intro w' hSw; (try dsimp only at hSw); go_simp) <;> with_reducible rfl)); (try simp only [Act.put, List.setIfInBounds_toArray, List.set_cons_zero, List.set_cons_succ])
      obtain ⟨jl, hjl⟩ : ∃ j, Hid (v0.heap.size = j) := ⟨_, rfl⟩
      obtain ⟨v1, hv1⟩ : ∃ v, Hid (v0.alloc (.cells #[] 44) = v) := ⟨_, rfl⟩
      have hacc : Acc v1 jl 44 5 (.slice (some ⟨jl, 0, none⟩) 0 0) ([] : List Patch) patchC := by rw [← hv1.out]; exact Acc.lit0 v0 jl 44 5 patchC (Nat.le_of_eq hjl.out.symm) hjl.out.symm
      have b1 : Below v0.heap.size v0 v1 := by rw [← hv1.out]; exact (Below.refl _ _).alloc (Nat.le_refl _) _
      have hR1 := hR0.below b1
      have hB1 := hB0.trans (b1.mono hs0)
      have rr1 := (b1.block r2 hr20).trans rr0
      have hjl1 : jl ≤ v1.heap.size := by rw [← hjl.out]; exact b1.size
      have hr2l : r2 < jl := by rw [← hjl.out]; exact hr20
      have hWl : W.heap.size ≤ jl := by omega
      refine wpAnyH_ready (rs := [4]) (by kernel_rfl) (by simp) ?_; refine AllReadyH.cons (o := _) rfl (fun K hK => ?_) AllReadyH.nil; go_simp;
      rw [hv1.out, hjl.out]
      refine hK.out _ _ (keep3 hHeld b1) (fun hHeld => ?_)
      clear hK K; (try simp only [Act.put, List.setIfInBounds_toArray, List.set_cons_zero, List.set_cons_succ])
      clear hR0 hB0 rr0 hr20 hs0 b1
      refine wpAnyH_ready (rs := [7]) (by kernel_rfl) (by simp) ?_; refine AllReadyH.cons (o := _) rfl (fun K hK => ?_) AllReadyH.nil
      refine step_accs rfl _ _ 28 rfl jl 44 (.agg #[.int .i64 0, .int .i64 0, .int .i64 0, .int .i64 0, .int .i64 0]) 5 40 Try.underlying28 infoPatch rfl (by omega) _ [] ps patchC patchC_len patchC_one rfl hacc ⟨b, off, none⟩ n c rfl hR1 hn0 (by simp; omega) (by omega) hjl1 _ rfl ?_
      intro A7 c7 w7 hacc7 hgrow7
      have hx : ([] : List Patch).length + n = ps.length := by rw [HLEN.out]; simp
      rw [hx] at hacc7 ⊢
      rw [List.nil_append] at hacc7
      clear hx
      have hch : ∀ g, g < jl → w7.heap[g]? = v1.heap[g]? := fun g hg => hgrow7.block g (by omega) (fun e => by have := (hacc.row e.symm).1; omega)
      have hB7 := hacc.grow_below hB1 hgrow7 hWl hB1.size
      have rr7 := (hch r2 hr2l).trans rr1
      refine hK.out _ _ ⟨cell_blk hHeld.1 (hch jb (by omega)), cell_blk hHeld.2.1 (hch jb (by omega)), cell_blk hHeld.2.2 (hch jb (by omega))⟩ (fun hHeld => ?_)
      clear hK K; (try simp only [Act.put, List.setIfInBounds_toArray, List.set_cons_zero, List.set_cons_succ])
      (refine take_yes (i := 8) (d := some 32) (v := ?_) rfl rfl (by kernel_rfl) (by kernel_rfl) (by kernel_rfl) (by rfl) (fun _ _ _ h => h) ?_ (by assumption) ?_; rotate_left; focus ((intro w' hSw; (try dsimp only at hSw); go_simp) <;> with_reducible rfl)); (try simp only [Act.put, List.setIfInBounds_toArray, List.set_cons_zero, List.set_cons_succ])
      have zz0 : w7.cell? ⟨r2, 0, none⟩ = some (.int .i64 0) := by rw [cell_of_row _ _ _ _ _ _ rr7]; rfl
      have zf0 : w7.frozen? ⟨r2, 0, none⟩ = false := frozen_of_row _ _ _ _ _ rr7
      have zz1 : w7.cell? ⟨r2, 1, none⟩ = some (.int .i64 0) := by rw [cell_of_row _ _ _ _ _ _ rr7]; rfl
      have zf1 : w7.frozen? ⟨r2, 1, none⟩ = false := frozen_of_row _ _ _ _ _ rr7
      have zz2 : w7.cell? ⟨r2, 2, none⟩ = some (.slice none 0 0) := by rw [cell_of_row _ _ _ _ _ _ rr7]; rfl
      have zf2 : w7.frozen? ⟨r2, 2, none⟩ = false := frozen_of_row _ _ _ _ _ rr7
      refine wpAnyH_ready (rs := [9]) (by kernel_rfl) (by simp) ?_; refine AllReadyH.cons (o := _) rfl (fun K hK => ?_) AllReadyH.nil; go_simp;
      refine hK.out _ _ ⟨keep_set (keep_set (keep_set hHeld.1 (by show r2 ≠ jb; omega)) (by show r2 ≠ jb; omega)) (by show r2 ≠ jb; omega), keep_set (keep_set (keep_set hHeld.2.1 (by show r2 ≠ jb; omega)) (by show r2 ≠ jb; omega)) (by show r2 ≠ jb; omega), keep_set (keep_set (keep_set hHeld.2.2 (by show r2 ≠ jb; omega)) (by show r2 ≠ jb; omega)) (by show r2 ≠ jb; omega)⟩ (fun hHeld => ?_)
      clear hK K; (try simp only [Act.put, List.setIfInBounds_toArray, List.set_cons_zero, List.set_cons_succ])
      (refine take_yes (i := 10) (d := some 3) (v := ?_) rfl rfl (by kernel_rfl) (by kernel_rfl) (by kernel_rfl) (by rfl) (fun _ _ _ h => h) ?_ (by assumption) ?_; rotate_left; focus ((intro w' hSw; (try dsimp only at hSw); go_simp) <;> with_reducible rfl)); (try simp only [Act.put, List.setIfInBounds_toArray, List.set_cons_zero, List.set_cons_succ])
      refine wpAnyH_done (by kernel_rfl) ?_ _
      clear hHeld
      have HA7 := Lib.hid hacc7
      have HB7 := Lib.hid hB7
      clear hacc7 hB7 hgrow7 hch
      obtain ⟨A8, c8, e8, hc8, _⟩ := HA7.out.own patchC_len
      have hle7 : ps.length ≤ c7 := by injection e8 with _ _ e9; rw [e9]; exact hc8
      clear e8 hc8
      go_wp2
      rw [HN.out]
      refine bodyPost_ret (v := .tuple #[.agg #[.int .i64 w, .int .i64 h, .slice A7 ps.length c7], .bool true]) (by simp [results, Try.results46, go_sem, World.cell?_setCell_same', World.cell?_setCell_other, zz0, zz1, zz2]) rfl ⟨A7, _, c7, rfl, hle7, acc_own (acc_low (acc_low (acc_low HA7.out hr2l _) hr2l _) hr2l _) patchC_len hWl, below_set (below_set (below_set HB7.out hr2W _) hr2W _) hr2W _⟩
    rw [hcs] at hCR
    obtain ⟨m, hm⟩ : ∃ m, Hid ((ct :: cs).length = m) := ⟨_, rfl⟩
    have hm0 : 0 < m := by rw [← hm.out]; simp
    rw [hm.out] at hCR ⊢
    have hmI : (0 : Int) < (m : Int) := by omega
    have hmz : ((m : Int) == 0) = false := by rw [beq_eq_false_iff_ne]; omega
    have hmz' : ¬ m = 0 := by omega
    obtain ⟨b, off, x, rfl, hbW, hx, q0, q1⟩ := hCR.cut hm0 (Below.refl _ _)
    have hxe : x = ct := by simpa using hx.symm
    subst hxe
    clear hx
    obtain ⟨up, at'⟩ := x
    simp only [Nat.zero_mul, Nat.add_zero] at q0 q1
    have hk : isCut w h ps ⟨up, at'⟩ = true := mem_cuts.1 (by rw [hcs]; simp)
    have HK := Lib.hid hk
    have HC := Lib.hid (knot_cut (l := ⟨w, h, ps⟩) HL.out HN1.out hcs)
    have hsm := cut_smaller (l := ⟨w, h, ps⟩) hk
    have hsA : (partA ⟨up, at'⟩ ps).length ≤ f := by have h9 := hsm.1; have : (partA ⟨up, at'⟩ ps).length < ps.length := h9; omega
    have hsB : (partB ⟨up, at'⟩ ps).length ≤ f := by have h9 := hsm.2; have : (partB ⟨up, at'⟩ ps).length < ps.length := h9; omega
    clear hk hsm hcs hCR
    go_wp2
    have hjbw : jb < w2.heap.size := by have h2 := block_lt_of_cell e0; exact h2
    refine wp_region_held_drew (S := (fun v => v.cell? ⟨jb, 0, none⟩ = some (.int .i64 w) ∧ v.cell? ⟨jb, 1, none⟩ = some (.int .i64 h) ∧ v.cell? ⟨jb, 2, none⟩ = some (.slice A n c) ∧ v.cell? ⟨b, off, none⟩ = some (.bool up) ∧ v.cell? ⟨b, off + 1, none⟩ = some (.int .i64 at'))) (by kernel_rfl) ⟨keep_drew e0, keep_drew e1, keep_drew e2, keep_drew q0, keep_drew q1⟩ (fun hHeld => ?_)
    have hB0 : Below W.heap.size W (World.drew w2) := hB2.drew
    have hR0 : Rd (World.drew w2) A n 5 ps patchC := hR2
    have hb0 : b < (World.drew w2).heap.size := hbW
    have hj0 : jb < (World.drew w2).heap.size := hjbw
    have hs0 : W.heap.size ≤ (World.drew w2).heap.size := hs2
    have rr0 : (World.drew w2).heap[r2]? = _ := rr2
    have hr0 : r2 < (World.drew w2).heap.size := hr22
    obtain ⟨v0, hv0⟩ : ∃ v, Hid (World.drew w2 = v) := ⟨_, rfl⟩
    rw [hv0.out] at hHeld hB0 hR0 hb0 hj0 hs0 rr0 hr0 ⊢
    clear e0 e1 e2 q0 q1 hR2 hB2 hbW hjbw hs2 rr2 hr22
    (refine take_yes (i := 0) (d := some 34) (v := ?_) rfl rfl (by kernel_rfl) (by kernel_rfl) (by kernel_rfl) (by rfl) (fun _ _ _ h => h) ?_ (by assumption) ?_; rotate_left; focus ((intro w' hSw; (try dsimp only at hSw); go_simp) <;> with_reducible rfl)); (try simp only [Act.put, List.setIfInBounds_toArray, List.set_cons_zero, List.set_cons_succ])
    (refine take_yes (i := 1) (d := some 35) (v := ?_) rfl rfl (by kernel_rfl) (by kernel_rfl) (by kernel_rfl) (by rfl) (fun _ _ _ h => h) ?_ (by assumption) ?_; rotate_left; focus ((intro w' hSw; (try dsimp only at hSw); go_simp) <;> with_reducible rfl)); (try simp only [Act.put, List.setIfInBounds_toArray, List.set_cons_zero, List.set_cons_succ])
    (refine take_yes (i := 2) (d := some 36) (v := ?_) rfl rfl (by kernel_rfl) (by kernel_rfl) (by kernel_rfl) (by rfl) (fun _ _ _ h => h) ?_ (by assumption) ?_; rotate_left; focus ((intro w' hSw; (try dsimp only at hSw); go_simp) <;> with_reducible rfl)); (try simp only [Act.put, List.setIfInBounds_toArray, List.set_cons_zero, List.set_cons_succ])
    (refine take_yes (i := 3) (d := some 37) (v := ?_) rfl rfl (by kernel_rfl) (by kernel_rfl) (by kernel_rfl) (by rfl) (fun _ _ _ h => h) ?_ (by assumption) ?_; rotate_left; focus ((intro w' hSw; (try dsimp only at hSw); go_simp) <;> with_reducible rfl)); (try simp only [Act.put, List.setIfInBounds_toArray, List.set_cons_zero, List.set_cons_succ])
    refine wpAnyH_ready (rs := [4, 8, 9]) (by kernel_rfl) (by simp) ?_
    refine AllReadyH.cons (o := _) rfl (fun K hK => ?_) (AllReadyH.cons (o := _) rfl (fun K hK => ?_) (AllReadyH.cons (o := _) rfl (fun K hK => ?_) AllReadyH.nil))
    · go_simp
      refine (divI_any w h A n c ps up at' _ hR0 hN HK.out).mono ?_
      rintro e v1 ⟨A1, n1, c1, A2, n2, c2, N1, m1, d1, N2, m2, d2, rfl, hPA, hPB, _, _, _, bb1⟩
      refine hK.out _ _ (keep5 hHeld bb1) (fun hHeld => ?_)
      clear hK K; (try simp only [Act.put, List.setIfInBounds_toArray, List.set_cons_zero, List.set_cons_succ])
      have R1 := hR0.below bb1
      have B1 := hB0.trans (bb1.mono hs0)
      have S1 := B1.size
      have rr0 := (bb1.block r2 (by  omega)).trans rr0
      have Q1 : Hid (v0.heap.size ≤ v1.heap.size) := bb1.size
      clear bb1
      (refine take_yes (i := 5) (d := some 33) (v := ?_) rfl rfl (by kernel_rfl) (by kernel_rfl) (by kernel_rfl) (by rfl) (fun _ _ _ h => h) ?_ (by assumption) ?_; rotate_left; focus ((intro w' hSw; (try dsimp only at hSw); go_simp) <;> with_reducible rfl)); (try simp only [Act.put, List.setIfInBounds_toArray, List.set_cons_zero, List.set_cons_succ])
      (refine take_yes (i := 6) (d := some 39) (v := ?_) rfl rfl (by kernel_rfl) (by kernel_rfl) (by kernel_rfl) (by rfl) (fun _ _ _ h => h) ?_ (by assumption) ?_; rotate_left; focus ((intro w' hSw; (try dsimp only at hSw); go_simp) <;> with_reducible rfl)); (try simp only [Act.put, List.setIfInBounds_toArray, List.set_cons_zero, List.set_cons_succ])
      (refine take_yes (i := 7) (d := some 40) (v := ?_) rfl rfl (by kernel_rfl) (by kernel_rfl) (by kernel_rfl) (by rfl) (fun _ _ _ h => h) ?_ (by assumption) ?_; rotate_left; focus ((intro w' hSw; (try dsimp only at hSw); go_simp) <;> with_reducible rfl)); (try simp only [Act.put, List.setIfInBounds_toArray, List.set_cons_zero, List.set_cons_succ])
      refine wpAnyH_ready (rs := [8, 9]) (by kernel_rfl) (by simp) ?_
      refine AllReadyH.cons (o := _) rfl (fun K hK => ?_) (AllReadyH.cons (o := _) rfl (fun K hK => ?_) AllReadyH.nil)
      · go_simp
        obtain ⟨ja, hja⟩ : ∃ j, Hid (v1.heap.size = j) := ⟨_, rfl⟩
        obtain ⟨v2, hv2⟩ : ∃ v, Hid (v1.alloc (.cells #[.int .i64 0, .int .i64 0, .slice none 0 0, .int .i64 0, .int .i64 0, .slice none 0 0] 98) = v) := ⟨_, rfl⟩
        have ra : v2.heap[ja]? = some (.cells #[.int .i64 0, .int .i64 0, .slice none 0 0, .int .i64 0, .int .i64 0, .slice none 0 0] 98 (0, 0)) := by rw [← hv2.out, ← hja.out]; exact heap_alloc_new v1 _
        have bb2 : Below v1.heap.size v1 v2 := by rw [← hv2.out]; exact (Below.refl _ _).alloc (Nat.le_refl _) _
        have za : v1.heap.size = ja ∧ v2.heap.size = ja + 1 := by rw [← hv2.out, ← hja.out]; simp
        have Za := Lib.hid za
        rw [hv2.out, hja.out]
        refine hK.out _ _ (keep5 hHeld bb2) (fun hHeld => ?_)
        clear hK K; (try simp only [Act.put, List.setIfInBounds_toArray, List.set_cons_zero, List.set_cons_succ])
        have R2 := R1.below bb2
        have B2 := B1.trans (bb2.mono S1)
        have S2 := B2.size
        have rr0 := (bb2.block r2 (by have := Q1.out; omega)).trans rr0
        have hPA := hPA.below bb2
        have hPB := hPB.below bb2
        have Q2 : Hid (v1.heap.size ≤ v2.heap.size) := bb2.size
        clear bb2 za
        refine wpAnyH_ready (rs := [9]) (by kernel_rfl) (by simp) ?_
        refine AllReadyH.cons (o := _) rfl (fun K hK => ?_) AllReadyH.nil
        · go_simp
          obtain ⟨jd, hjd⟩ : ∃ j, Hid (v2.heap.size = j) := ⟨_, rfl⟩
          obtain ⟨v3, hv3⟩ : ∃ v, Hid (v2.alloc (.cells #[.slice none 0 0, .slice none 0 0] 99) = v) := ⟨_, rfl⟩
          have rd : v3.heap[jd]? = some (.cells #[.slice none 0 0, .slice none 0 0] 99 (0, 0)) := by rw [← hv3.out, ← hjd.out]; exact heap_alloc_new v2 _
          have bb3 : Below v2.heap.size v2 v3 := by rw [← hv3.out]; exact (Below.refl _ _).alloc (Nat.le_refl _) _
          have zd : v2.heap.size = jd ∧ v3.heap.size = jd + 1 := by rw [← hv3.out, ← hjd.out]; simp
          have Zd := Lib.hid zd
          rw [hv3.out, hjd.out]
          refine hK.out _ _ (keep5 hHeld bb3) (fun hHeld => ?_)
          clear hK K; (try simp only [Act.put, List.setIfInBounds_toArray, List.set_cons_zero, List.set_cons_succ])
          have R3 := R2.below bb3
          have B3 := B2.trans (bb3.mono S2)
          have S3 := B3.size
          have rr0 := (bb3.block r2 (by have := Q1.out; have := Q2.out; omega)).trans rr0
          have ra := (bb3.block ja (by have := Za.out; have := Q1.out; have := Q2.out; omega)).trans ra
          have hPA := hPA.below bb3
          have hPB := hPB.below bb3
          have Q3 : Hid (v2.heap.size ≤ v3.heap.size) := bb3.size
          clear bb3 zd
          have N : Hid (¬ jb = ja ∧ ¬ jb = jd ∧ ¬ b = ja ∧ ¬ b = jd ∧ ¬ ja = jd ∧ W.heap.size ≤ ja ∧ W.heap.size ≤ jd ∧ ¬ r2 = ja ∧ ¬ r2 = jd) := by have h1 := Za.out; have h2 := Zd.out; have h3 := Q1.out; have h4 := Q2.out; have h5 := Q3.out; refine ⟨?_, ?_, ?_, ?_, ?_, ?_, ?_, ?_, ?_⟩ <;> omega
          have NA : Hid ((ja < v0.heap.size ∨ v1.heap.size ≤ ja) ∧ (jd < v0.heap.size ∨ v1.heap.size ≤ jd)) := by have h1 := Za.out; have h2 := Zd.out; have h3 := Q1.out; have h4 := Q2.out; have h5 := Q3.out; refine ⟨?_, ?_⟩ <;> omega
          obtain ⟨n1_, n2_, n3_, n4_, n5_, n6_, n7_, n8_, n9_⟩ := N.out
          obtain ⟨na_, nd_⟩ := NA.out
          have hn1_ := hPA.len
          have hn2_ := hPB.len
          have HLA := Lib.hid hn1_
          have HLB := Lib.hid hn2_
          clear hn1_ hn2_
          have sa0 : v3.cell? ⟨ja, 0, none⟩ = some (.int .i64 0) := by rw [cell_of_row _ _ _ _ _ _ ra]; rfl
          have ga0 : v3.frozen? ⟨ja, 0, none⟩ = false := frozen_of_row _ _ _ _ _ ra
          have sa1 : v3.cell? ⟨ja, 1, none⟩ = some (.int .i64 0) := by rw [cell_of_row _ _ _ _ _ _ ra]; rfl
          have ga1 : v3.frozen? ⟨ja, 1, none⟩ = false := frozen_of_row _ _ _ _ _ ra
          have sa2 : v3.cell? ⟨ja, 2, none⟩ = some (.slice none 0 0) := by rw [cell_of_row _ _ _ _ _ _ ra]; rfl
          have ga2 : v3.frozen? ⟨ja, 2, none⟩ = false := frozen_of_row _ _ _ _ _ ra
          have sa3 : v3.cell? ⟨ja, 3, none⟩ = some (.int .i64 0) := by rw [cell_of_row _ _ _ _ _ _ ra]; rfl
          have ga3 : v3.frozen? ⟨ja, 3, none⟩ = false := frozen_of_row _ _ _ _ _ ra
          have sa4 : v3.cell? ⟨ja, 4, none⟩ = some (.int .i64 0) := by rw [cell_of_row _ _ _ _ _ _ ra]; rfl
          have ga4 : v3.frozen? ⟨ja, 4, none⟩ = false := frozen_of_row _ _ _ _ _ ra
          have sa5 : v3.cell? ⟨ja, 5, none⟩ = some (.slice none 0 0) := by rw [cell_of_row _ _ _ _ _ _ ra]; rfl
          have ga5 : v3.frozen? ⟨ja, 5, none⟩ = false := frozen_of_row _ _ _ _ _ ra
          obtain ⟨v4, hv4⟩ : ∃ v, Hid (((((((v3.setCell ⟨ja, 0, none⟩ (.int .i64 (wA w ⟨up, at'⟩))).setCell ⟨ja, 1, none⟩ (.int .i64 (hA h ⟨up, at'⟩))).setCell ⟨ja, 2, none⟩ (.slice A1 n1 c1)).setCell ⟨ja, 3, none⟩ (.int .i64 (wB w ⟨up, at'⟩))).setCell ⟨ja, 4, none⟩ (.int .i64 (hB h ⟨up, at'⟩))).setCell ⟨ja, 5, none⟩ (.slice A2 n2 c2)) = v) := ⟨_, rfl⟩
          refine wpAnyH_ready (rs := [10]) (by kernel_rfl) (by simp) ?_; refine AllReadyH.cons (o := _) rfl (fun K hK => ?_) AllReadyH.nil; go_simp
          rw [hv4.out]
          have ta := row_set (o := 5) (.slice A2 n2 c2) (row_set (o := 4) (.int .i64 (hB h ⟨up, at'⟩)) (row_set (o := 3) (.int .i64 (wB w ⟨up, at'⟩)) (row_set (o := 2) (.slice A1 n1 c1) (row_set (o := 1) (.int .i64 (hA h ⟨up, at'⟩)) (row_set (o := 0) (.int .i64 (wA w ⟨up, at'⟩)) (ra))))))
          rw [hv4.out] at ta
          have hfara : ∀ g, g ≠ ja → v4.heap[g]? = v3.heap[g]? := fun g hg => by rw [← hv4.out, row_far _ hg, row_far _ hg, row_far _ hg, row_far _ hg, row_far _ hg, row_far _ hg]
          refine hK.out _ _ ⟨cell_blk hHeld.1 (hfara jb n1_), cell_blk hHeld.2.1 (hfara jb n1_), cell_blk hHeld.2.2.1 (hfara jb n1_), cell_blk hHeld.2.2.2.1 (hfara b n3_), cell_blk hHeld.2.2.2.2 (hfara b n3_)⟩ (fun hHeld => ?_)
          clear hK K; (try simp only [Act.put, List.setIfInBounds_toArray, List.set_cons_zero, List.set_cons_succ])
          clear sa0 ga0 sa1 ga1 sa2 ga2 sa3 ga3 sa4 ga4 sa5 ga5
          have hPA := own_set (own_set (own_set (own_set (own_set (own_set (hPA) na_ 0 (.int .i64 (wA w ⟨up, at'⟩))) na_ 1 (.int .i64 (hA h ⟨up, at'⟩))) na_ 2 (.slice A1 n1 c1)) na_ 3 (.int .i64 (wB w ⟨up, at'⟩))) na_ 4 (.int .i64 (hB h ⟨up, at'⟩))) na_ 5 (.slice A2 n2 c2)
          have hPB := own_set (own_set (own_set (own_set (own_set (own_set (hPB) na_ 0 (.int .i64 (wA w ⟨up, at'⟩))) na_ 1 (.int .i64 (hA h ⟨up, at'⟩))) na_ 2 (.slice A1 n1 c1)) na_ 3 (.int .i64 (wB w ⟨up, at'⟩))) na_ 4 (.int .i64 (hB h ⟨up, at'⟩))) na_ 5 (.slice A2 n2 c2)
          rw [hv4.out] at hPA hPB
          have BB := below_set (below_set (below_set (below_set (below_set (below_set (B3) n6_ (o := 0) (.int .i64 (wA w ⟨up, at'⟩))) n6_ (o := 1) (.int .i64 (hA h ⟨up, at'⟩))) n6_ (o := 2) (.slice A1 n1 c1)) n6_ (o := 3) (.int .i64 (wB w ⟨up, at'⟩))) n6_ (o := 4) (.int .i64 (hB h ⟨up, at'⟩))) n6_ (o := 5) (.slice A2 n2 c2)
          rw [hv4.out] at BB
          have rr0 := (hfara r2 n8_).trans rr0
          have rd := (hfara jd (fun e => n5_ e.symm)).trans rd
          have sd0 : v4.cell? ⟨jd, 0, none⟩ = some (.slice none 0 0) := by rw [cell_of_row _ _ _ _ _ _ rd]; rfl
          have gd0 : v4.frozen? ⟨jd, 0, none⟩ = false := frozen_of_row _ _ _ _ _ rd
          have sd1 : v4.cell? ⟨jd, 1, none⟩ = some (.slice none 0 0) := by rw [cell_of_row _ _ _ _ _ _ rd]; rfl
          have gd1 : v4.frozen? ⟨jd, 1, none⟩ = false := frozen_of_row _ _ _ _ _ rd
          obtain ⟨v5, hv5⟩ : ∃ v, Hid (((v4.setCell ⟨jd, 0, none⟩ (.slice N1 m1 d1)).setCell ⟨jd, 1, none⟩ (.slice N2 m2 d2)) = v) := ⟨_, rfl⟩
          refine wpAnyH_ready (rs := [11]) (by kernel_rfl) (by simp) ?_; refine AllReadyH.cons (o := _) rfl (fun K hK => ?_) AllReadyH.nil; go_simp
          rw [hv5.out]
          have td := row_set (o := 1) (.slice N2 m2 d2) (row_set (o := 0) (.slice N1 m1 d1) (rd))
          rw [hv5.out] at td
          have hfard : ∀ g, g ≠ jd → v5.heap[g]? = v4.heap[g]? := fun g hg => by rw [← hv5.out, row_far _ hg, row_far _ hg]
          refine hK.out _ _ ⟨cell_blk hHeld.1 (hfard jb n2_), cell_blk hHeld.2.1 (hfard jb n2_), cell_blk hHeld.2.2.1 (hfard jb n2_), cell_blk hHeld.2.2.2.1 (hfard b n4_), cell_blk hHeld.2.2.2.2 (hfard b n4_)⟩ (fun hHeld => ?_)
          clear hK K; (try simp only [Act.put, List.setIfInBounds_toArray, List.set_cons_zero, List.set_cons_succ])
          clear sd0 gd0 sd1 gd1
          have hPA := own_set (own_set (hPA) nd_ 0 (.slice N1 m1 d1)) nd_ 1 (.slice N2 m2 d2)
          have hPB := own_set (own_set (hPB) nd_ 0 (.slice N1 m1 d1)) nd_ 1 (.slice N2 m2 d2)
          rw [hv5.out] at hPA hPB
          have BB := below_set (below_set (BB) n7_ (o := 0) (.slice N1 m1 d1)) n7_ (o := 1) (.slice N2 m2 d2)
          rw [hv5.out] at BB
          have rr0 := (hfard r2 n9_).trans rr0
          have ra := (hfard ja n5_).trans ta
          have rd := td
          refine wpAnyH_done (by kernel_rfl) ?_ _
          have ya0 : v5.cell? ⟨ja, 0, none⟩ = some (.int .i64 (wA w ⟨up, at'⟩)) := by rw [cell_of_row _ _ _ _ _ _ ra]; rfl
          have ya1 : v5.cell? ⟨ja, 1, none⟩ = some (.int .i64 (hA h ⟨up, at'⟩)) := by rw [cell_of_row _ _ _ _ _ _ ra]; rfl
          have ya2 : v5.cell? ⟨ja, 2, none⟩ = some (.slice A1 n1 c1) := by rw [cell_of_row _ _ _ _ _ _ ra]; rfl
          have ya3 : v5.cell? ⟨ja, 3, none⟩ = some (.int .i64 (wB w ⟨up, at'⟩)) := by rw [cell_of_row _ _ _ _ _ _ ra]; rfl
          have ya4 : v5.cell? ⟨ja, 4, none⟩ = some (.int .i64 (hB h ⟨up, at'⟩)) := by rw [cell_of_row _ _ _ _ _ _ ra]; rfl
          have ya5 : v5.cell? ⟨ja, 5, none⟩ = some (.slice A2 n2 c2) := by rw [cell_of_row _ _ _ _ _ _ ra]; rfl
          have hn1 : n1 ≤ 1048576 := by have h1 := HLA.out; have h2 := pA_len ⟨up, at'⟩ ps; have h3 := HLEN.out; omega
          have hn2 : n2 ≤ 1048576 := by have h1 := HLB.out; have h2 := pB_len ⟨up, at'⟩ ps; have h3 := HLEN.out; omega
          have hPA := hPA.rd
          have hPB := hPB.rd
          have BS := BB.size
          have hr5 := heap_lt rr0
          clear ra rd ta td hfara hfard hHeld n1_ n2_ n3_ n4_ n5_ n6_ n7_ n8_ n9_ na_ nd_
          go_wp2_with fail
          refine (ih _ _ _ _ _ (partA ⟨up, at'⟩ ps) _ hsA hPA hn1).mono ?_
          rintro e v6 ⟨A6, n6, c6, rfl, hk6, hO6, bb6⟩
          have ya3 := keepcell ya3 bb6
          have ya4 := keepcell ya4 bb6
          have ya5 := keepcell ya5 bb6
          have hPB := hPB.below bb6
          have B6 := BB.trans (bb6.mono BS)
          have S6 := B6.size
          have rr6 := (bb6.block r2 hr5).trans rr0
          have hr6 := heap_lt rr6
          have HR5 := Lib.hid hr5
          rcases hfa : firstKnot ⟨wA w ⟨up, at'⟩, hA h ⟨up, at'⟩, partA ⟨up, at'⟩ ps⟩ with _ | l
          · have HF := Lib.hid (show firstKnot ⟨wB w ⟨up, at'⟩, hB h ⟨up, at'⟩, partB ⟨up, at'⟩ ps⟩ = firstKnot ⟨w, h, ps⟩ by rw [HC.out]; show _ = (match firstKnot ⟨wA w ⟨up, at'⟩, hA h ⟨up, at'⟩, partA ⟨up, at'⟩ ps⟩ with | some k => some k | none => firstKnot ⟨wB w ⟨up, at'⟩, hB h ⟨up, at'⟩, partB ⟨up, at'⟩ ps⟩); rw [hfa])
            clear hO6
            obtain ⟨vx, hvx⟩ : ∃ v, Hid (v6.alloc (.cells #[.int .i64 (kw none), .int .i64 (kh none), .slice A6 n6 c6] 30) = v) := ⟨_, rfl⟩
            have bx : Below v6.heap.size v6 vx := by rw [← hvx.out]; exact (Below.refl _ _).alloc (Nat.le_refl _) _
            have xya3 := keepcell ya3 bx
            have xya4 := keepcell ya4 bx
            have xya5 := keepcell ya5 bx
            go_wp2_with (rw [hvx.out])
            have hPB7 := hPB.below bx
            have rr7 := (bx.block r2 hr6).trans rr6
            have B7 := B6.trans (bx.mono S6)
            have S7 := B7.size
            have hr7 := heap_lt rr7
            refine (ih _ _ _ _ _ (partB ⟨up, at'⟩ ps) _ hsB hPB7 hn2).mono ?_
            rintro e v8 ⟨A8, n8, c8, rfl, hk8, hO8, bb8⟩
            have B8 := B7.trans (bb8.mono S7)
            have rr8 := (bb8.block r2 hr7).trans rr7
            rw [HF.out] at hO8 ⊢
            have zz0 : v8.cell? ⟨r2, 0, none⟩ = some (.int .i64 0) := by rw [cell_of_row _ _ _ _ _ _ rr8]; rfl
            have zf0 : v8.frozen? ⟨r2, 0, none⟩ = false := frozen_of_row _ _ _ _ _ rr8
            have zz1 : v8.cell? ⟨r2, 1, none⟩ = some (.int .i64 0) := by rw [cell_of_row _ _ _ _ _ _ rr8]; rfl
            have zf1 : v8.frozen? ⟨r2, 1, none⟩ = false := frozen_of_row _ _ _ _ _ rr8
            have zz2 : v8.cell? ⟨r2, 2, none⟩ = some (.slice none 0 0) := by rw [cell_of_row _ _ _ _ _ _ rr8]; rfl
            have zf2 : v8.frozen? ⟨r2, 2, none⟩ = false := frozen_of_row _ _ _ _ _ rr8
            have HO8 := Lib.hid hO8
            have HB8 := Lib.hid B8
            have HR7 := Lib.hid (And.intro hr7 S7)
            clear hO8 B8 hr7 S7 hfa
            go_wp2
            refine bodyPost_ret (v := .tuple #[.agg #[.int .i64 (kw (firstKnot ⟨w, h, ps⟩)), .int .i64 (kh (firstKnot ⟨w, h, ps⟩)), .slice A8 n8 c8], .bool (firstKnot ⟨w, h, ps⟩).isSome]) (by simp [results, Try.results46, go_sem, World.cell?_setCell_same', World.cell?_setCell_other, zz0, zz1, zz2]) rfl ⟨A8, n8, c8, rfl, hk8, ?_, below_set (below_set (below_set HB8.out hr2W _) hr2W _) hr2W _⟩
            exact (own_set (own_set (own_set HO8.out (.inl HR7.out.1) _ _) (.inl HR7.out.1) _ _) (.inl HR7.out.1) _ _).mono HR7.out.2 (by rw [set_size, set_size, set_size]; exact Nat.le_refl _)
          · have HF := Lib.hid (show some l = firstKnot ⟨w, h, ps⟩ by rw [HC.out]; show _ = (match firstKnot ⟨wA w ⟨up, at'⟩, hA h ⟨up, at'⟩, partA ⟨up, at'⟩ ps⟩ with | some k => some k | none => firstKnot ⟨wB w ⟨up, at'⟩, hB h ⟨up, at'⟩, partB ⟨up, at'⟩ ps⟩); rw [hfa])
            rw [hfa] at hO6
            clear hPB
            obtain ⟨lw, lh, lps⟩ := l
            have HO6 : Own v6 v5.heap.size v6.heap.size A6 n6 5 lps patchC := hO6
            clear hO6
            have zz0 : v6.cell? ⟨r2, 0, none⟩ = some (.int .i64 0) := by rw [cell_of_row _ _ _ _ _ _ rr6]; rfl
            have zf0 : v6.frozen? ⟨r2, 0, none⟩ = false := frozen_of_row _ _ _ _ _ rr6
            have zz1 : v6.cell? ⟨r2, 1, none⟩ = some (.int .i64 0) := by rw [cell_of_row _ _ _ _ _ _ rr6]; rfl
            have zf1 : v6.frozen? ⟨r2, 1, none⟩ = false := frozen_of_row _ _ _ _ _ rr6
            have zz2 : v6.cell? ⟨r2, 2, none⟩ = some (.slice none 0 0) := by rw [cell_of_row _ _ _ _ _ _ rr6]; rfl
            have zf2 : v6.frozen? ⟨r2, 2, none⟩ = false := frozen_of_row _ _ _ _ _ rr6
            obtain ⟨vx, hvx⟩ : ∃ v, Hid (v6.alloc (.cells #[.int .i64 (kw (some ⟨lw, lh, lps⟩)), .int .i64 (kh (some ⟨lw, lh, lps⟩)), .slice A6 n6 c6] 30) = v) := ⟨_, rfl⟩
            have bx : Below v6.heap.size v6 vx := by rw [← hvx.out]; exact (Below.refl _ _).alloc (Nat.le_refl _) _
            have bxc0 : vx.cell? ⟨v6.heap.size, 0, none⟩ = some (.int .i64 (kw (some ⟨lw, lh, lps⟩))) := by rw [← hvx.out, cell_of_row _ _ _ _ _ _ (heap_alloc_new v6 _)]; rfl
            have bxc1 : vx.cell? ⟨v6.heap.size, 1, none⟩ = some (.int .i64 (kh (some ⟨lw, lh, lps⟩))) := by rw [← hvx.out, cell_of_row _ _ _ _ _ _ (heap_alloc_new v6 _)]; rfl
            have bxc2 : vx.cell? ⟨v6.heap.size, 2, none⟩ = some (.slice A6 n6 c6) := by rw [← hvx.out, cell_of_row _ _ _ _ _ _ (heap_alloc_new v6 _)]; rfl
            have BX := B6.trans (bx.mono S6)
            have OX := HO6.below bx
            have rrx := (bx.block r2 hr6).trans rr6
            have xz0 : vx.cell? ⟨r2, 0, none⟩ = some (.int .i64 0) := by rw [cell_of_row _ _ _ _ _ _ rrx]; rfl
            have xf0 : vx.frozen? ⟨r2, 0, none⟩ = false := frozen_of_row _ _ _ _ _ rrx
            have xz1 : vx.cell? ⟨r2, 1, none⟩ = some (.int .i64 0) := by rw [cell_of_row _ _ _ _ _ _ rrx]; rfl
            have xf1 : vx.frozen? ⟨r2, 1, none⟩ = false := frozen_of_row _ _ _ _ _ rrx
            have xz2 : vx.cell? ⟨r2, 2, none⟩ = some (.slice none 0 0) := by rw [cell_of_row _ _ _ _ _ _ rrx]; rfl
            have xf2 : vx.frozen? ⟨r2, 2, none⟩ = false := frozen_of_row _ _ _ _ _ rrx
            have HOX := Lib.hid OX
            have HBX := Lib.hid BX
            have HSX := Lib.hid (And.intro BS bx.size)
            clear OX BX BS bx HO6
            go_wp2_with (rw [hvx.out])
            rw [← HF.out]
            obtain ⟨hsx1, hsx2⟩ := HSX.out
            refine bodyPost_ret (v := .tuple #[.agg #[.int .i64 (kw (some ⟨lw, lh, lps⟩)), .int .i64 (kh (some ⟨lw, lh, lps⟩)), .slice A6 n6 c6], .bool true]) (by simp [results, Try.results46, go_sem, World.cell?_setCell_same', World.cell?_setCell_other, xz0, xz1, xz2]) rfl ⟨A6, n6, c6, rfl, hk6, ?_, below_set (below_set (below_set HBX.out hr2W _) hr2W _) hr2W _⟩
            exact (own_set (own_set (own_set HOX.out (.inl HR5.out) _ _) (.inl HR5.out) _ _) (.inl HR5.out) _ _).mono hsx1 (by rw [set_size, set_size, set_size]; exact hsx2)
      · go_simp
        obtain ⟨jd, hjd⟩ : ∃ j, Hid (v1.heap.size = j) := ⟨_, rfl⟩
        obtain ⟨v2, hv2⟩ : ∃ v, Hid (v1.alloc (.cells #[.slice none 0 0, .slice none 0 0] 99) = v) := ⟨_, rfl⟩
        have rd : v2.heap[jd]? = some (.cells #[.slice none 0 0, .slice none 0 0] 99 (0, 0)) := by rw [← hv2.out, ← hjd.out]; exact heap_alloc_new v1 _
        have bb2 : Below v1.heap.size v1 v2 := by rw [← hv2.out]; exact (Below.refl _ _).alloc (Nat.le_refl _) _
        have zd : v1.heap.size = jd ∧ v2.heap.size = jd + 1 := by rw [← hv2.out, ← hjd.out]; simp
        have Zd := Lib.hid zd
        rw [hv2.out, hjd.out]
        refine hK.out _ _ (keep5 hHeld bb2) (fun hHeld => ?_)
        clear hK K; (try simp only [Act.put, List.setIfInBounds_toArray, List.set_cons_zero, List.set_cons_succ])
        have R2 := R1.below bb2
        have B2 := B1.trans (bb2.mono S1)
        have S2 := B2.size
        have rr0 := (bb2.block r2 (by have := Q1.out; omega)).trans rr0
        have hPA := hPA.below bb2
        have hPB := hPB.below bb2
        have Q2 : Hid (v1.heap.size ≤ v2.heap.size) := bb2.size
        clear bb2 zd
        refine wpAnyH_ready (rs := [8]) (by kernel_rfl) (by simp) ?_
        refine AllReadyH.cons (o := _) rfl (fun K hK => ?_) AllReadyH.nil
        · go_simp
          obtain ⟨ja, hja⟩ : ∃ j, Hid (v2.heap.size = j) := ⟨_, rfl⟩
          obtain ⟨v3, hv3⟩ : ∃ v, Hid (v2.alloc (.cells #[.int .i64 0, .int .i64 0, .slice none 0 0, .int .i64 0, .int .i64 0, .slice none 0 0] 98) = v) := ⟨_, rfl⟩
          have ra : v3.heap[ja]? = some (.cells #[.int .i64 0, .int .i64 0, .slice none 0 0, .int .i64 0, .int .i64 0, .slice none 0 0] 98 (0, 0)) := by rw [← hv3.out, ← hja.out]; exact heap_alloc_new v2 _
          have bb3 : Below v2.heap.size v2 v3 := by rw [← hv3.out]; exact (Below.refl _ _).alloc (Nat.le_refl _) _
          have za : v2.heap.size = ja ∧ v3.heap.size = ja + 1 := by rw [← hv3.out, ← hja.out]; simp
          have Za := Lib.hid za
          rw [hv3.out, hja.out]
          refine hK.out _ _ (keep5 hHeld bb3) (fun hHeld => ?_)
          clear hK K; (try simp only [Act.put, List.setIfInBounds_toArray, List.set_cons_zero, List.set_cons_succ])
          have R3 := R2.below bb3
          have B3 := B2.trans (bb3.mono S2)
          have S3 := B3.size
          have rr0 := (bb3.block r2 (by have := Q1.out; have := Q2.out; omega)).trans rr0
          have rd := (bb3.block jd (by have := Zd.out; have := Q1.out; have := Q2.out; omega)).trans rd
          have hPA := hPA.below bb3
          have hPB := hPB.below bb3
          have Q3 : Hid (v2.heap.size ≤ v3.heap.size) := bb3.size
          clear bb3 za
          have N : Hid (¬ jb = ja ∧ ¬ jb = jd ∧ ¬ b = ja ∧ ¬ b = jd ∧ ¬ ja = jd ∧ W.heap.size ≤ ja ∧ W.heap.size ≤ jd ∧ ¬ r2 = ja ∧ ¬ r2 = jd) := by have h1 := Za.out; have h2 := Zd.out; have h3 := Q1.out; have h4 := Q2.out; have h5 := Q3.out; refine ⟨?_, ?_, ?_, ?_, ?_, ?_, ?_, ?_, ?_⟩ <;> omega
          have NA : Hid ((ja < v0.heap.size ∨ v1.heap.size ≤ ja) ∧ (jd < v0.heap.size ∨ v1.heap.size ≤ jd)) := by have h1 := Za.out; have h2 := Zd.out; have h3 := Q1.out; have h4 := Q2.out; have h5 := Q3.out; refine ⟨?_, ?_⟩ <;> omega
          obtain ⟨n1_, n2_, n3_, n4_, n5_, n6_, n7_, n8_, n9_⟩ := N.out
          obtain ⟨na_, nd_⟩ := NA.out
          have hn1_ := hPA.len
          have hn2_ := hPB.len
          have HLA := Lib.hid hn1_
          have HLB := Lib.hid hn2_
          clear hn1_ hn2_
          have sa0 : v3.cell? ⟨ja, 0, none⟩ = some (.int .i64 0) := by rw [cell_of_row _ _ _ _ _ _ ra]; rfl
          have ga0 : v3.frozen? ⟨ja, 0, none⟩ = false := frozen_of_row _ _ _ _ _ ra
          have sa1 : v3.cell? ⟨ja, 1, none⟩ = some (.int .i64 0) := by rw [cell_of_row _ _ _ _ _ _ ra]; rfl
          have ga1 : v3.frozen? ⟨ja, 1, none⟩ = false := frozen_of_row _ _ _ _ _ ra
          have sa2 : v3.cell? ⟨ja, 2, none⟩ = some (.slice none 0 0) := by rw [cell_of_row _ _ _ _ _ _ ra]; rfl
          have ga2 : v3.frozen? ⟨ja, 2, none⟩ = false := frozen_of_row _ _ _ _ _ ra
          have sa3 : v3.cell? ⟨ja, 3, none⟩ = some (.int .i64 0) := by rw [cell_of_row _ _ _ _ _ _ ra]; rfl
          have ga3 : v3.frozen? ⟨ja, 3, none⟩ = false := frozen_of_row _ _ _ _ _ ra
          have sa4 : v3.cell? ⟨ja, 4, none⟩ = some (.int .i64 0) := by rw [cell_of_row _ _ _ _ _ _ ra]; rfl
          have ga4 : v3.frozen? ⟨ja, 4, none⟩ = false := frozen_of_row _ _ _ _ _ ra
          have sa5 : v3.cell? ⟨ja, 5, none⟩ = some (.slice none 0 0) := by rw [cell_of_row _ _ _ _ _ _ ra]; rfl
          have ga5 : v3.frozen? ⟨ja, 5, none⟩ = false := frozen_of_row _ _ _ _ _ ra
          obtain ⟨v4, hv4⟩ : ∃ v, Hid (((((((v3.setCell ⟨ja, 0, none⟩ (.int .i64 (wA w ⟨up, at'⟩))).setCell ⟨ja, 1, none⟩ (.int .i64 (hA h ⟨up, at'⟩))).setCell ⟨ja, 2, none⟩ (.slice A1 n1 c1)).setCell ⟨ja, 3, none⟩ (.int .i64 (wB w ⟨up, at'⟩))).setCell ⟨ja, 4, none⟩ (.int .i64 (hB h ⟨up, at'⟩))).setCell ⟨ja, 5, none⟩ (.slice A2 n2 c2)) = v) := ⟨_, rfl⟩
          refine wpAnyH_ready (rs := [10]) (by kernel_rfl) (by simp) ?_; refine AllReadyH.cons (o := _) rfl (fun K hK => ?_) AllReadyH.nil; go_simp
          rw [hv4.out]
          have ta := row_set (o := 5) (.slice A2 n2 c2) (row_set (o := 4) (.int .i64 (hB h ⟨up, at'⟩)) (row_set (o := 3) (.int .i64 (wB w ⟨up, at'⟩)) (row_set (o := 2) (.slice A1 n1 c1) (row_set (o := 1) (.int .i64 (hA h ⟨up, at'⟩)) (row_set (o := 0) (.int .i64 (wA w ⟨up, at'⟩)) (ra))))))
          rw [hv4.out] at ta
          have hfara : ∀ g, g ≠ ja → v4.heap[g]? = v3.heap[g]? := fun g hg => by rw [← hv4.out, row_far _ hg, row_far _ hg, row_far _ hg, row_far _ hg, row_far _ hg, row_far _ hg]
          refine hK.out _ _ ⟨cell_blk hHeld.1 (hfara jb n1_), cell_blk hHeld.2.1 (hfara jb n1_), cell_blk hHeld.2.2.1 (hfara jb n1_), cell_blk hHeld.2.2.2.1 (hfara b n3_), cell_blk hHeld.2.2.2.2 (hfara b n3_)⟩ (fun hHeld => ?_)
          clear hK K; (try simp only [Act.put, List.setIfInBounds_toArray, List.set_cons_zero, List.set_cons_succ])
          clear sa0 ga0 sa1 ga1 sa2 ga2 sa3 ga3 sa4 ga4 sa5 ga5
          have hPA := own_set (own_set (own_set (own_set (own_set (own_set (hPA) na_ 0 (.int .i64 (wA w ⟨up, at'⟩))) na_ 1 (.int .i64 (hA h ⟨up, at'⟩))) na_ 2 (.slice A1 n1 c1)) na_ 3 (.int .i64 (wB w ⟨up, at'⟩))) na_ 4 (.int .i64 (hB h ⟨up, at'⟩))) na_ 5 (.slice A2 n2 c2)
          have hPB := own_set (own_set (own_set (own_set (own_set (own_set (hPB) na_ 0 (.int .i64 (wA w ⟨up, at'⟩))) na_ 1 (.int .i64 (hA h ⟨up, at'⟩))) na_ 2 (.slice A1 n1 c1)) na_ 3 (.int .i64 (wB w ⟨up, at'⟩))) na_ 4 (.int .i64 (hB h ⟨up, at'⟩))) na_ 5 (.slice A2 n2 c2)
          rw [hv4.out] at hPA hPB
          have BB := below_set (below_set (below_set (below_set (below_set (below_set (B3) n6_ (o := 0) (.int .i64 (wA w ⟨up, at'⟩))) n6_ (o := 1) (.int .i64 (hA h ⟨up, at'⟩))) n6_ (o := 2) (.slice A1 n1 c1)) n6_ (o := 3) (.int .i64 (wB w ⟨up, at'⟩))) n6_ (o := 4) (.int .i64 (hB h ⟨up, at'⟩))) n6_ (o := 5) (.slice A2 n2 c2)
          rw [hv4.out] at BB
          have rr0 := (hfara r2 n8_).trans rr0
          have rd := (hfara jd (fun e => n5_ e.symm)).trans rd
          have sd0 : v4.cell? ⟨jd, 0, none⟩ = some (.slice none 0 0) := by rw [cell_of_row _ _ _ _ _ _ rd]; rfl
          have gd0 : v4.frozen? ⟨jd, 0, none⟩ = false := frozen_of_row _ _ _ _ _ rd
          have sd1 : v4.cell? ⟨jd, 1, none⟩ = some (.slice none 0 0) := by rw [cell_of_row _ _ _ _ _ _ rd]; rfl
          have gd1 : v4.frozen? ⟨jd, 1, none⟩ = false := frozen_of_row _ _ _ _ _ rd
          obtain ⟨v5, hv5⟩ : ∃ v, Hid (((v4.setCell ⟨jd, 0, none⟩ (.slice N1 m1 d1)).setCell ⟨jd, 1, none⟩ (.slice N2 m2 d2)) = v) := ⟨_, rfl⟩
          refine wpAnyH_ready (rs := [11]) (by kernel_rfl) (by simp) ?_; refine AllReadyH.cons (o := _) rfl (fun K hK => ?_) AllReadyH.nil; go_simp
          rw [hv5.out]
          have td := row_set (o := 1) (.slice N2 m2 d2) (row_set (o := 0) (.slice N1 m1 d1) (rd))
          rw [hv5.out] at td
          have hfard : ∀ g, g ≠ jd → v5.heap[g]? = v4.heap[g]? := fun g hg => by rw [← hv5.out, row_far _ hg, row_far _ hg]
          refine hK.out _ _ ⟨cell_blk hHeld.1 (hfard jb n2_), cell_blk hHeld.2.1 (hfard jb n2_), cell_blk hHeld.2.2.1 (hfard jb n2_), cell_blk hHeld.2.2.2.1 (hfard b n4_), cell_blk hHeld.2.2.2.2 (hfard b n4_)⟩ (fun hHeld => ?_)
          clear hK K; (try simp only [Act.put, List.setIfInBounds_toArray, List.set_cons_zero, List.set_cons_succ])
          clear sd0 gd0 sd1 gd1
          have hPA := own_set (own_set (hPA) nd_ 0 (.slice N1 m1 d1)) nd_ 1 (.slice N2 m2 d2)
          have hPB := own_set (own_set (hPB) nd_ 0 (.slice N1 m1 d1)) nd_ 1 (.slice N2 m2 d2)
          rw [hv5.out] at hPA hPB
          have BB := below_set (below_set (BB) n7_ (o := 0) (.slice N1 m1 d1)) n7_ (o := 1) (.slice N2 m2 d2)
          rw [hv5.out] at BB
          have rr0 := (hfard r2 n9_).trans rr0
          have ra := (hfard ja n5_).trans ta
          have rd := td
          refine wpAnyH_done (by kernel_rfl) ?_ _
          have ya0 : v5.cell? ⟨ja, 0, none⟩ = some (.int .i64 (wA w ⟨up, at'⟩)) := by rw [cell_of_row _ _ _ _ _ _ ra]; rfl
          have ya1 : v5.cell? ⟨ja, 1, none⟩ = some (.int .i64 (hA h ⟨up, at'⟩)) := by rw [cell_of_row _ _ _ _ _ _ ra]; rfl
          have ya2 : v5.cell? ⟨ja, 2, none⟩ = some (.slice A1 n1 c1) := by rw [cell_of_row _ _ _ _ _ _ ra]; rfl
          have ya3 : v5.cell? ⟨ja, 3, none⟩ = some (.int .i64 (wB w ⟨up, at'⟩)) := by rw [cell_of_row _ _ _ _ _ _ ra]; rfl
          have ya4 : v5.cell? ⟨ja, 4, none⟩ = some (.int .i64 (hB h ⟨up, at'⟩)) := by rw [cell_of_row _ _ _ _ _ _ ra]; rfl
          have ya5 : v5.cell? ⟨ja, 5, none⟩ = some (.slice A2 n2 c2) := by rw [cell_of_row _ _ _ _ _ _ ra]; rfl
          have hn1 : n1 ≤ 1048576 := by have h1 := HLA.out; have h2 := pA_len ⟨up, at'⟩ ps; have h3 := HLEN.out; omega
          have hn2 : n2 ≤ 1048576 := by have h1 := HLB.out; have h2 := pB_len ⟨up, at'⟩ ps; have h3 := HLEN.out; omega
          have hPA := hPA.rd
          have hPB := hPB.rd
          have BS := BB.size
          have hr5 := heap_lt rr0
          clear ra rd ta td hfara hfard hHeld n1_ n2_ n3_ n4_ n5_ n6_ n7_ n8_ n9_ na_ nd_
          go_wp2_with fail
          refine (ih _ _ _ _ _ (partA ⟨up, at'⟩ ps) _ hsA hPA hn1).mono ?_
          rintro e v6 ⟨A6, n6, c6, rfl, hk6, hO6, bb6⟩
          have ya3 := keepcell ya3 bb6
          have ya4 := keepcell ya4 bb6
          have ya5 := keepcell ya5 bb6
          have hPB := hPB.below bb6
          have B6 := BB.trans (bb6.mono BS)
          have S6 := B6.size
          have rr6 := (bb6.block r2 hr5).trans rr0
          have hr6 := heap_lt rr6
          have HR5 := Lib.hid hr5
          rcases hfa : firstKnot ⟨wA w ⟨up, at'⟩, hA h ⟨up, at'⟩, partA ⟨up, at'⟩ ps⟩ with _ | l
          · have HF := Lib.hid (show firstKnot ⟨wB w ⟨up, at'⟩, hB h ⟨up, at'⟩, partB ⟨up, at'⟩ ps⟩ = firstKnot ⟨w, h, ps⟩ by rw [HC.out]; show _ = (match firstKnot ⟨wA w ⟨up, at'⟩, hA h ⟨up, at'⟩, partA ⟨up, at'⟩ ps⟩ with | some k => some k | none => firstKnot ⟨wB w ⟨up, at'⟩, hB h ⟨up, at'⟩, partB ⟨up, at'⟩ ps⟩); rw [hfa])
            clear hO6
            obtain ⟨vx, hvx⟩ : ∃ v, Hid (v6.alloc (.cells #[.int .i64 (kw none), .int .i64 (kh none), .slice A6 n6 c6] 30) = v) := ⟨_, rfl⟩
            have bx : Below v6.heap.size v6 vx := by rw [← hvx.out]; exact (Below.refl _ _).alloc (Nat.le_refl _) _
            have xya3 := keepcell ya3 bx
            have xya4 := keepcell ya4 bx
            have xya5 := keepcell ya5 bx
            go_wp2_with (rw [hvx.out])
            have hPB7 := hPB.below bx
            have rr7 := (bx.block r2 hr6).trans rr6
            have B7 := B6.trans (bx.mono S6)
            have S7 := B7.size
            have hr7 := heap_lt rr7
            refine (ih _ _ _ _ _ (partB ⟨up, at'⟩ ps) _ hsB hPB7 hn2).mono ?_
            rintro e v8 ⟨A8, n8, c8, rfl, hk8, hO8, bb8⟩
            have B8 := B7.trans (bb8.mono S7)
            have rr8 := (bb8.block r2 hr7).trans rr7
            rw [HF.out] at hO8 ⊢
            have zz0 : v8.cell? ⟨r2, 0, none⟩ = some (.int .i64 0) := by rw [cell_of_row _ _ _ _ _ _ rr8]; rfl
            have zf0 : v8.frozen? ⟨r2, 0, none⟩ = false := frozen_of_row _ _ _ _ _ rr8
            have zz1 : v8.cell? ⟨r2, 1, none⟩ = some (.int .i64 0) := by rw [cell_of_row _ _ _ _ _ _ rr8]; rfl
            have zf1 : v8.frozen? ⟨r2, 1, none⟩ = false := frozen_of_row _ _ _ _ _ rr8
            have zz2 : v8.cell? ⟨r2, 2, none⟩ = some (.slice none 0 0) := by rw [cell_of_row _ _ _ _ _ _ rr8]; rfl
            have zf2 : v8.frozen? ⟨r2, 2, none⟩ = false := frozen_of_row _ _ _ _ _ rr8
            have HO8 := Lib.hid hO8
            have HB8 := Lib.hid B8
            have HR7 := Lib.hid (And.intro hr7 S7)
            clear hO8 B8 hr7 S7 hfa
            go_wp2
            refine bodyPost_ret (v := .tuple #[.agg #[.int .i64 (kw (firstKnot ⟨w, h, ps⟩)), .int .i64 (kh (firstKnot ⟨w, h, ps⟩)), .slice A8 n8 c8], .bool (firstKnot ⟨w, h, ps⟩).isSome]) (by simp [results, Try.results46, go_sem, World.cell?_setCell_same', World.cell?_setCell_other, zz0, zz1, zz2]) rfl ⟨A8, n8, c8, rfl, hk8, ?_, below_set (below_set (below_set HB8.out hr2W _) hr2W _) hr2W _⟩
            exact (own_set (own_set (own_set HO8.out (.inl HR7.out.1) _ _) (.inl HR7.out.1) _ _) (.inl HR7.out.1) _ _).mono HR7.out.2 (by rw [set_size, set_size, set_size]; exact Nat.le_refl _)
          · have HF := Lib.hid (show some l = firstKnot ⟨w, h, ps⟩ by rw [HC.out]; show _ = (match firstKnot ⟨wA w ⟨up, at'⟩, hA h ⟨up, at'⟩, partA ⟨up, at'⟩ ps⟩ with | some k => some k | none => firstKnot ⟨wB w ⟨up, at'⟩, hB h ⟨up, at'⟩, partB ⟨up, at'⟩ ps⟩); rw [hfa])
            rw [hfa] at hO6
            clear hPB
            obtain ⟨lw, lh, lps⟩ := l
            have HO6 : Own v6 v5.heap.size v6.heap.size A6 n6 5 lps patchC := hO6
            clear hO6
            have zz0 : v6.cell? ⟨r2, 0, none⟩ = some (.int .i64 0) := by rw [cell_of_row _ _ _ _ _ _ rr6]; rfl
            have zf0 : v6.frozen? ⟨r2, 0, none⟩ = false := frozen_of_row _ _ _ _ _ rr6
            have zz1 : v6.cell? ⟨r2, 1, none⟩ = some (.int .i64 0) := by rw [cell_of_row _ _ _ _ _ _ rr6]; rfl
            have zf1 : v6.frozen? ⟨r2, 1, none⟩ = false := frozen_of_row _ _ _ _ _ rr6
            have zz2 : v6.cell? ⟨r2, 2, none⟩ = some (.slice none 0 0) := by rw [cell_of_row _ _ _ _ _ _ rr6]; rfl
            have zf2 : v6.frozen? ⟨r2, 2, none⟩ = false := frozen_of_row _ _ _ _ _ rr6
            obtain ⟨vx, hvx⟩ : ∃ v, Hid (v6.alloc (.cells #[.int .i64 (kw (some ⟨lw, lh, lps⟩)), .int .i64 (kh (some ⟨lw, lh, lps⟩)), .slice A6 n6 c6] 30) = v) := ⟨_, rfl⟩
            have bx : Below v6.heap.size v6 vx := by rw [← hvx.out]; exact (Below.refl _ _).alloc (Nat.le_refl _) _
            have bxc0 : vx.cell? ⟨v6.heap.size, 0, none⟩ = some (.int .i64 (kw (some ⟨lw, lh, lps⟩))) := by rw [← hvx.out, cell_of_row _ _ _ _ _ _ (heap_alloc_new v6 _)]; rfl
            have bxc1 : vx.cell? ⟨v6.heap.size, 1, none⟩ = some (.int .i64 (kh (some ⟨lw, lh, lps⟩))) := by rw [← hvx.out, cell_of_row _ _ _ _ _ _ (heap_alloc_new v6 _)]; rfl
            have bxc2 : vx.cell? ⟨v6.heap.size, 2, none⟩ = some (.slice A6 n6 c6) := by rw [← hvx.out, cell_of_row _ _ _ _ _ _ (heap_alloc_new v6 _)]; rfl
            have BX := B6.trans (bx.mono S6)
            have OX := HO6.below bx
            have rrx := (bx.block r2 hr6).trans rr6
            have xz0 : vx.cell? ⟨r2, 0, none⟩ = some (.int .i64 0) := by rw [cell_of_row _ _ _ _ _ _ rrx]; rfl
            have xf0 : vx.frozen? ⟨r2, 0, none⟩ = false := frozen_of_row _ _ _ _ _ rrx
            have xz1 : vx.cell? ⟨r2, 1, none⟩ = some (.int .i64 0) := by rw [cell_of_row _ _ _ _ _ _ rrx]; rfl
            have xf1 : vx.frozen? ⟨r2, 1, none⟩ = false := frozen_of_row _ _ _ _ _ rrx
            have xz2 : vx.cell? ⟨r2, 2, none⟩ = some (.slice none 0 0) := by rw [cell_of_row _ _ _ _ _ _ rrx]; rfl
            have xf2 : vx.frozen? ⟨r2, 2, none⟩ = false := frozen_of_row _ _ _ _ _ rrx
            have HOX := Lib.hid OX
            have HBX := Lib.hid BX
            have HSX := Lib.hid (And.intro BS bx.size)
            clear OX BX BS bx HO6
            go_wp2_with (rw [hvx.out])
            rw [← HF.out]
            obtain ⟨hsx1, hsx2⟩ := HSX.out
            refine bodyPost_ret (v := .tuple #[.agg #[.int .i64 (kw (some ⟨lw, lh, lps⟩)), .int .i64 (kh (some ⟨lw, lh, lps⟩)), .slice A6 n6 c6], .bool true]) (by simp [results, Try.results46, go_sem, World.cell?_setCell_same', World.cell?_setCell_other, xz0, xz1, xz2]) rfl ⟨A6, n6, c6, rfl, hk6, ?_, below_set (below_set (below_set HBX.out hr2W _) hr2W _) hr2W _⟩
            exact (own_set (own_set (own_set HOX.out (.inl HR5.out) _ _) (.inl HR5.out) _ _) (.inl HR5.out) _ _).mono hsx1 (by rw [set_size, set_size, set_size]; exact hsx2)
    · go_simp
      obtain ⟨ja, hja⟩ : ∃ j, Hid (v0.heap.size = j) := ⟨_, rfl⟩
      obtain ⟨v1, hv1⟩ : ∃ v, Hid (v0.alloc (.cells #[.int .i64 0, .int .i64 0, .slice none 0 0, .int .i64 0, .int .i64 0, .slice none 0 0] 98) = v) := ⟨_, rfl⟩
      have ra : v1.heap[ja]? = some (.cells #[.int .i64 0, .int .i64 0, .slice none 0 0, .int .i64 0, .int .i64 0, .slice none 0 0] 98 (0, 0)) := by rw [← hv1.out, ← hja.out]; exact heap_alloc_new v0 _
      have bb1 : Below v0.heap.size v0 v1 := by rw [← hv1.out]; exact (Below.refl _ _).alloc (Nat.le_refl _) _
      have za : v0.heap.size = ja ∧ v1.heap.size = ja + 1 := by rw [← hv1.out, ← hja.out]; simp
      have Za := Lib.hid za
      rw [hv1.out, hja.out]
      refine hK.out _ _ (keep5 hHeld bb1) (fun hHeld => ?_)
      clear hK K; (try simp only [Act.put, List.setIfInBounds_toArray, List.set_cons_zero, List.set_cons_succ])
      have R1 := hR0.below bb1
      have B1 := hB0.trans (bb1.mono hs0)
      have S1 := B1.size
      have rr0 := (bb1.block r2 (by  omega)).trans rr0
      have Q1 : Hid (v0.heap.size ≤ v1.heap.size) := bb1.size
      clear bb1 za
      refine wpAnyH_ready (rs := [4, 9]) (by kernel_rfl) (by simp) ?_
      refine AllReadyH.cons (o := _) rfl (fun K hK => ?_) (AllReadyH.cons (o := _) rfl (fun K hK => ?_) AllReadyH.nil)
      · go_simp
        refine (divI_any w h A n c ps up at' _ R1 hN HK.out).mono ?_
        rintro e v2 ⟨A1, n1, c1, A2, n2, c2, N1, m1, d1, N2, m2, d2, rfl, hPA, hPB, _, _, _, bb2⟩
        refine hK.out _ _ (keep5 hHeld bb2) (fun hHeld => ?_)
        clear hK K; (try simp only [Act.put, List.setIfInBounds_toArray, List.set_cons_zero, List.set_cons_succ])
        have R2 := R1.below bb2
        have B2 := B1.trans (bb2.mono S1)
        have S2 := B2.size
        have rr0 := (bb2.block r2 (by have := Q1.out; omega)).trans rr0
        have ra := (bb2.block ja (by have := Za.out; have := Q1.out; omega)).trans ra
        have Q2 : Hid (v1.heap.size ≤ v2.heap.size) := bb2.size
        clear bb2
        (refine take_yes (i := 5) (d := some 33) (v := ?_) rfl rfl (by kernel_rfl) (by kernel_rfl) (by kernel_rfl) (by rfl) (fun _ _ _ h => h) ?_ (by assumption) ?_; rotate_left; focus ((intro w' hSw; (try dsimp only at hSw); go_simp) <;> with_reducible rfl)); (try simp only [Act.put, List.setIfInBounds_toArray, List.set_cons_zero, List.set_cons_succ])
        (refine take_yes (i := 6) (d := some 39) (v := ?_) rfl rfl (by kernel_rfl) (by kernel_rfl) (by kernel_rfl) (by rfl) (fun _ _ _ h => h) ?_ (by assumption) ?_; rotate_left; focus ((intro w' hSw; (try dsimp only at hSw); go_simp) <;> with_reducible rfl)); (try simp only [Act.put, List.setIfInBounds_toArray, List.set_cons_zero, List.set_cons_succ])
        (refine take_yes (i := 7) (d := some 40) (v := ?_) rfl rfl (by kernel_rfl) (by kernel_rfl) (by kernel_rfl) (by rfl) (fun _ _ _ h => h) ?_ (by assumption) ?_; rotate_left; focus ((intro w' hSw; (try dsimp only at hSw); go_simp) <;> with_reducible rfl)); (try simp only [Act.put, List.setIfInBounds_toArray, List.set_cons_zero, List.set_cons_succ])
        refine wpAnyH_ready (rs := [9]) (by kernel_rfl) (by simp) ?_
        refine AllReadyH.cons (o := _) rfl (fun K hK => ?_) AllReadyH.nil
        · go_simp
          obtain ⟨jd, hjd⟩ : ∃ j, Hid (v2.heap.size = j) := ⟨_, rfl⟩
          obtain ⟨v3, hv3⟩ : ∃ v, Hid (v2.alloc (.cells #[.slice none 0 0, .slice none 0 0] 99) = v) := ⟨_, rfl⟩
          have rd : v3.heap[jd]? = some (.cells #[.slice none 0 0, .slice none 0 0] 99 (0, 0)) := by rw [← hv3.out, ← hjd.out]; exact heap_alloc_new v2 _
          have bb3 : Below v2.heap.size v2 v3 := by rw [← hv3.out]; exact (Below.refl _ _).alloc (Nat.le_refl _) _
          have zd : v2.heap.size = jd ∧ v3.heap.size = jd + 1 := by rw [← hv3.out, ← hjd.out]; simp
          have Zd := Lib.hid zd
          rw [hv3.out, hjd.out]
          refine hK.out _ _ (keep5 hHeld bb3) (fun hHeld => ?_)
          clear hK K; (try simp only [Act.put, List.setIfInBounds_toArray, List.set_cons_zero, List.set_cons_succ])
          have R3 := R2.below bb3
          have B3 := B2.trans (bb3.mono S2)
          have S3 := B3.size
          have rr0 := (bb3.block r2 (by have := Q1.out; have := Q2.out; omega)).trans rr0
          have ra := (bb3.block ja (by have := Za.out; have := Q1.out; have := Q2.out; omega)).trans ra
          have hPA := hPA.below bb3
          have hPB := hPB.below bb3
          have Q3 : Hid (v2.heap.size ≤ v3.heap.size) := bb3.size
          clear bb3 zd
          have N : Hid (¬ jb = ja ∧ ¬ jb = jd ∧ ¬ b = ja ∧ ¬ b = jd ∧ ¬ ja = jd ∧ W.heap.size ≤ ja ∧ W.heap.size ≤ jd ∧ ¬ r2 = ja ∧ ¬ r2 = jd) := by have h1 := Za.out; have h2 := Zd.out; have h3 := Q1.out; have h4 := Q2.out; have h5 := Q3.out; refine ⟨?_, ?_, ?_, ?_, ?_, ?_, ?_, ?_, ?_⟩ <;> omega
          have NA : Hid ((ja < v1.heap.size ∨ v2.heap.size ≤ ja) ∧ (jd < v1.heap.size ∨ v2.heap.size ≤ jd)) := by have h1 := Za.out; have h2 := Zd.out; have h3 := Q1.out; have h4 := Q2.out; have h5 := Q3.out; refine ⟨?_, ?_⟩ <;> omega
          obtain ⟨n1_, n2_, n3_, n4_, n5_, n6_, n7_, n8_, n9_⟩ := N.out
          obtain ⟨na_, nd_⟩ := NA.out
          have hn1_ := hPA.len
          have hn2_ := hPB.len
          have HLA := Lib.hid hn1_
          have HLB := Lib.hid hn2_
          clear hn1_ hn2_
          have sa0 : v3.cell? ⟨ja, 0, none⟩ = some (.int .i64 0) := by rw [cell_of_row _ _ _ _ _ _ ra]; rfl
          have ga0 : v3.frozen? ⟨ja, 0, none⟩ = false := frozen_of_row _ _ _ _ _ ra
          have sa1 : v3.cell? ⟨ja, 1, none⟩ = some (.int .i64 0) := by rw [cell_of_row _ _ _ _ _ _ ra]; rfl
          have ga1 : v3.frozen? ⟨ja, 1, none⟩ = false := frozen_of_row _ _ _ _ _ ra
          have sa2 : v3.cell? ⟨ja, 2, none⟩ = some (.slice none 0 0) := by rw [cell_of_row _ _ _ _ _ _ ra]; rfl
          have ga2 : v3.frozen? ⟨ja, 2, none⟩ = false := frozen_of_row _ _ _ _ _ ra
          have sa3 : v3.cell? ⟨ja, 3, none⟩ = some (.int .i64 0) := by rw [cell_of_row _ _ _ _ _ _ ra]; rfl
          have ga3 : v3.frozen? ⟨ja, 3, none⟩ = false := frozen_of_row _ _ _ _ _ ra
          have sa4 : v3.cell? ⟨ja, 4, none⟩ = some (.int .i64 0) := by rw [cell_of_row _ _ _ _ _ _ ra]; rfl
          have ga4 : v3.frozen? ⟨ja, 4, none⟩ = false := frozen_of_row _ _ _ _ _ ra
          have sa5 : v3.cell? ⟨ja, 5, none⟩ = some (.slice none 0 0) := by rw [cell_of_row _ _ _ _ _ _ ra]; rfl
          have ga5 : v3.frozen? ⟨ja, 5, none⟩ = false := frozen_of_row _ _ _ _ _ ra
          obtain ⟨v4, hv4⟩ : ∃ v, Hid (((((((v3.setCell ⟨ja, 0, none⟩ (.int .i64 (wA w ⟨up, at'⟩))).setCell ⟨ja, 1, none⟩ (.int .i64 (hA h ⟨up, at'⟩))).setCell ⟨ja, 2, none⟩ (.slice A1 n1 c1)).setCell ⟨ja, 3, none⟩ (.int .i64 (wB w ⟨up, at'⟩))).setCell ⟨ja, 4, none⟩ (.int .i64 (hB h ⟨up, at'⟩))).setCell ⟨ja, 5, none⟩ (.slice A2 n2 c2)) = v) := ⟨_, rfl⟩
          refine wpAnyH_ready (rs := [10]) (by kernel_rfl) (by simp) ?_; refine AllReadyH.cons (o := _) rfl (fun K hK => ?_) AllReadyH.nil; go_simp
          rw [hv4.out]
          have ta := row_set (o := 5) (.slice A2 n2 c2) (row_set (o := 4) (.int .i64 (hB h ⟨up, at'⟩)) (row_set (o := 3) (.int .i64 (wB w ⟨up, at'⟩)) (row_set (o := 2) (.slice A1 n1 c1) (row_set (o := 1) (.int .i64 (hA h ⟨up, at'⟩)) (row_set (o := 0) (.int .i64 (wA w ⟨up, at'⟩)) (ra))))))
          rw [hv4.out] at ta
          have hfara : ∀ g, g ≠ ja → v4.heap[g]? = v3.heap[g]? := fun g hg => by rw [← hv4.out, row_far _ hg, row_far _ hg, row_far _ hg, row_far _ hg, row_far _ hg, row_far _ hg]
          refine hK.out _ _ ⟨cell_blk hHeld.1 (hfara jb n1_), cell_blk hHeld.2.1 (hfara jb n1_), cell_blk hHeld.2.2.1 (hfara jb n1_), cell_blk hHeld.2.2.2.1 (hfara b n3_), cell_blk hHeld.2.2.2.2 (hfara b n3_)⟩ (fun hHeld => ?_)
          clear hK K; (try simp only [Act.put, List.setIfInBounds_toArray, List.set_cons_zero, List.set_cons_succ])
          clear sa0 ga0 sa1 ga1 sa2 ga2 sa3 ga3 sa4 ga4 sa5 ga5
          have hPA := own_set (own_set (own_set (own_set (own_set (own_set (hPA) na_ 0 (.int .i64 (wA w ⟨up, at'⟩))) na_ 1 (.int .i64 (hA h ⟨up, at'⟩))) na_ 2 (.slice A1 n1 c1)) na_ 3 (.int .i64 (wB w ⟨up, at'⟩))) na_ 4 (.int .i64 (hB h ⟨up, at'⟩))) na_ 5 (.slice A2 n2 c2)
          have hPB := own_set (own_set (own_set (own_set (own_set (own_set (hPB) na_ 0 (.int .i64 (wA w ⟨up, at'⟩))) na_ 1 (.int .i64 (hA h ⟨up, at'⟩))) na_ 2 (.slice A1 n1 c1)) na_ 3 (.int .i64 (wB w ⟨up, at'⟩))) na_ 4 (.int .i64 (hB h ⟨up, at'⟩))) na_ 5 (.slice A2 n2 c2)
          rw [hv4.out] at hPA hPB
          have BB := below_set (below_set (below_set (below_set (below_set (below_set (B3) n6_ (o := 0) (.int .i64 (wA w ⟨up, at'⟩))) n6_ (o := 1) (.int .i64 (hA h ⟨up, at'⟩))) n6_ (o := 2) (.slice A1 n1 c1)) n6_ (o := 3) (.int .i64 (wB w ⟨up, at'⟩))) n6_ (o := 4) (.int .i64 (hB h ⟨up, at'⟩))) n6_ (o := 5) (.slice A2 n2 c2)
          rw [hv4.out] at BB
          have rr0 := (hfara r2 n8_).trans rr0
          have rd := (hfara jd (fun e => n5_ e.symm)).trans rd
          have sd0 : v4.cell? ⟨jd, 0, none⟩ = some (.slice none 0 0) := by rw [cell_of_row _ _ _ _ _ _ rd]; rfl
          have gd0 : v4.frozen? ⟨jd, 0, none⟩ = false := frozen_of_row _ _ _ _ _ rd
          have sd1 : v4.cell? ⟨jd, 1, none⟩ = some (.slice none 0 0) := by rw [cell_of_row _ _ _ _ _ _ rd]; rfl
          have gd1 : v4.frozen? ⟨jd, 1, none⟩ = false := frozen_of_row _ _ _ _ _ rd
          obtain ⟨v5, hv5⟩ : ∃ v, Hid (((v4.setCell ⟨jd, 0, none⟩ (.slice N1 m1 d1)).setCell ⟨jd, 1, none⟩ (.slice N2 m2 d2)) = v) := ⟨_, rfl⟩
          refine wpAnyH_ready (rs := [11]) (by kernel_rfl) (by simp) ?_; refine AllReadyH.cons (o := _) rfl (fun K hK => ?_) AllReadyH.nil; go_simp
          rw [hv5.out]
          have td := row_set (o := 1) (.slice N2 m2 d2) (row_set (o := 0) (.slice N1 m1 d1) (rd))
          rw [hv5.out] at td
          have hfard : ∀ g, g ≠ jd → v5.heap[g]? = v4.heap[g]? := fun g hg => by rw [← hv5.out, row_far _ hg, row_far _ hg]
          refine hK.out _ _ ⟨cell_blk hHeld.1 (hfard jb n2_), cell_blk hHeld.2.1 (hfard jb n2_), cell_blk hHeld.2.2.1 (hfard jb n2_), cell_blk hHeld.2.2.2.1 (hfard b n4_), cell_blk hHeld.2.2.2.2 (hfard b n4_)⟩ (fun hHeld => ?_)
          clear hK K; (try simp only [Act.put, List.setIfInBounds_toArray, List.set_cons_zero, List.set_cons_succ])
          clear sd0 gd0 sd1 gd1
          have hPA := own_set (own_set (hPA) nd_ 0 (.slice N1 m1 d1)) nd_ 1 (.slice N2 m2 d2)
          have hPB := own_set (own_set (hPB) nd_ 0 (.slice N1 m1 d1)) nd_ 1 (.slice N2 m2 d2)
          rw [hv5.out] at hPA hPB
          have BB := below_set (below_set (BB) n7_ (o := 0) (.slice N1 m1 d1)) n7_ (o := 1) (.slice N2 m2 d2)
          rw [hv5.out] at BB
          have rr0 := (hfard r2 n9_).trans rr0
          have ra := (hfard ja n5_).trans ta
          have rd := td
          refine wpAnyH_done (by kernel_rfl) ?_ _
          have ya0 : v5.cell? ⟨ja, 0, none⟩ = some (.int .i64 (wA w ⟨up, at'⟩)) := by rw [cell_of_row _ _ _ _ _ _ ra]; rfl
          have ya1 : v5.cell? ⟨ja, 1, none⟩ = some (.int .i64 (hA h ⟨up, at'⟩)) := by rw [cell_of_row _ _ _ _ _ _ ra]; rfl
          have ya2 : v5.cell? ⟨ja, 2, none⟩ = some (.slice A1 n1 c1) := by rw [cell_of_row _ _ _ _ _ _ ra]; rfl
          have ya3 : v5.cell? ⟨ja, 3, none⟩ = some (.int .i64 (wB w ⟨up, at'⟩)) := by rw [cell_of_row _ _ _ _ _ _ ra]; rfl
          have ya4 : v5.cell? ⟨ja, 4, none⟩ = some (.int .i64 (hB h ⟨up, at'⟩)) := by rw [cell_of_row _ _ _ _ _ _ ra]; rfl
          have ya5 : v5.cell? ⟨ja, 5, none⟩ = some (.slice A2 n2 c2) := by rw [cell_of_row _ _ _ _ _ _ ra]; rfl
          have hn1 : n1 ≤ 1048576 := by have h1 := HLA.out; have h2 := pA_len ⟨up, at'⟩ ps; have h3 := HLEN.out; omega
          have hn2 : n2 ≤ 1048576 := by have h1 := HLB.out; have h2 := pB_len ⟨up, at'⟩ ps; have h3 := HLEN.out; omega
          have hPA := hPA.rd
          have hPB := hPB.rd
          have BS := BB.size
          have hr5 := heap_lt rr0
          clear ra rd ta td hfara hfard hHeld n1_ n2_ n3_ n4_ n5_ n6_ n7_ n8_ n9_ na_ nd_
          go_wp2_with fail
          refine (ih _ _ _ _ _ (partA ⟨up, at'⟩ ps) _ hsA hPA hn1).mono ?_
          rintro e v6 ⟨A6, n6, c6, rfl, hk6, hO6, bb6⟩
          have ya3 := keepcell ya3 bb6
          have ya4 := keepcell ya4 bb6
          have ya5 := keepcell ya5 bb6
          have hPB := hPB.below bb6
          have B6 := BB.trans (bb6.mono BS)
          have S6 := B6.size
          have rr6 := (bb6.block r2 hr5).trans rr0
          have hr6 := heap_lt rr6
          have HR5 := Lib.hid hr5
          rcases hfa : firstKnot ⟨wA w ⟨up, at'⟩, hA h ⟨up, at'⟩, partA ⟨up, at'⟩ ps⟩ with _ | l
          · have HF := Lib.hid (show firstKnot ⟨wB w ⟨up, at'⟩, hB h ⟨up, at'⟩, partB ⟨up, at'⟩ ps⟩ = firstKnot ⟨w, h, ps⟩ by rw [HC.out]; show _ = (match firstKnot ⟨wA w ⟨up, at'⟩, hA h ⟨up, at'⟩, partA ⟨up, at'⟩ ps⟩ with | some k => some k | none => firstKnot ⟨wB w ⟨up, at'⟩, hB h ⟨up, at'⟩, partB ⟨up, at'⟩ ps⟩); rw [hfa])
            clear hO6
            obtain ⟨vx, hvx⟩ : ∃ v, Hid (v6.alloc (.cells #[.int .i64 (kw none), .int .i64 (kh none), .slice A6 n6 c6] 30) = v) := ⟨_, rfl⟩
            have bx : Below v6.heap.size v6 vx := by rw [← hvx.out]; exact (Below.refl _ _).alloc (Nat.le_refl _) _
            have xya3 := keepcell ya3 bx
            have xya4 := keepcell ya4 bx
            have xya5 := keepcell ya5 bx
            go_wp2_with (rw [hvx.out])
            have hPB7 := hPB.below bx
            have rr7 := (bx.block r2 hr6).trans rr6
            have B7 := B6.trans (bx.mono S6)
            have S7 := B7.size
            have hr7 := heap_lt rr7
            refine (ih _ _ _ _ _ (partB ⟨up, at'⟩ ps) _ hsB hPB7 hn2).mono ?_
            rintro e v8 ⟨A8, n8, c8, rfl, hk8, hO8, bb8⟩
            have B8 := B7.trans (bb8.mono S7)
            have rr8 := (bb8.block r2 hr7).trans rr7
            rw [HF.out] at hO8 ⊢
            have zz0 : v8.cell? ⟨r2, 0, none⟩ = some (.int .i64 0) := by rw [cell_of_row _ _ _ _ _ _ rr8]; rfl
            have zf0 : v8.frozen? ⟨r2, 0, none⟩ = false := frozen_of_row _ _ _ _ _ rr8
            have zz1 : v8.cell? ⟨r2, 1, none⟩ = some (.int .i64 0) := by rw [cell_of_row _ _ _ _ _ _ rr8]; rfl
            have zf1 : v8.frozen? ⟨r2, 1, none⟩ = false := frozen_of_row _ _ _ _ _ rr8
            have zz2 : v8.cell? ⟨r2, 2, none⟩ = some (.slice none 0 0) := by rw [cell_of_row _ _ _ _ _ _ rr8]; rfl
            have zf2 : v8.frozen? ⟨r2, 2, none⟩ = false := frozen_of_row _ _ _ _ _ rr8
            have HO8 := Lib.hid hO8
            have HB8 := Lib.hid B8
            have HR7 := Lib.hid (And.intro hr7 S7)
            clear hO8 B8 hr7 S7 hfa
            go_wp2
            refine bodyPost_ret (v := .tuple #[.agg #[.int .i64 (kw (firstKnot ⟨w, h, ps⟩)), .int .i64 (kh (firstKnot ⟨w, h, ps⟩)), .slice A8 n8 c8], .bool (firstKnot ⟨w, h, ps⟩).isSome]) (by simp [results, Try.results46, go_sem, World.cell?_setCell_same', World.cell?_setCell_other, zz0, zz1, zz2]) rfl ⟨A8, n8, c8, rfl, hk8, ?_, below_set (below_set (below_set HB8.out hr2W _) hr2W _) hr2W _⟩
            exact (own_set (own_set (own_set HO8.out (.inl HR7.out.1) _ _) (.inl HR7.out.1) _ _) (.inl HR7.out.1) _ _).mono HR7.out.2 (by rw [set_size, set_size, set_size]; exact Nat.le_refl _)
          · have HF := Lib.hid (show some l = firstKnot ⟨w, h, ps⟩ by rw [HC.out]; show _ = (match firstKnot ⟨wA w ⟨up, at'⟩, hA h ⟨up, at'⟩, partA ⟨up, at'⟩ ps⟩ with | some k => some k | none => firstKnot ⟨wB w ⟨up, at'⟩, hB h ⟨up, at'⟩, partB ⟨up, at'⟩ ps⟩); rw [hfa])
            rw [hfa] at hO6
            clear hPB
            obtain ⟨lw, lh, lps⟩ := l
            have HO6 : Own v6 v5.heap.size v6.heap.size A6 n6 5 lps patchC := hO6
            clear hO6
            have zz0 : v6.cell? ⟨r2, 0, none⟩ = some (.int .i64 0) := by rw [cell_of_row _ _ _ _ _ _ rr6]; rfl
            have zf0 : v6.frozen? ⟨r2, 0, none⟩ = false := frozen_of_row _ _ _ _ _ rr6
            have zz1 : v6.cell? ⟨r2, 1, none⟩ = some (.int .i64 0) := by rw [cell_of_row _ _ _ _ _ _ rr6]; rfl
            have zf1 : v6.frozen? ⟨r2, 1, none⟩ = false := frozen_of_row _ _ _ _ _ rr6
            have zz2 : v6.cell? ⟨r2, 2, none⟩ = some (.slice none 0 0) := by rw [cell_of_row _ _ _ _ _ _ rr6]; rfl
            have zf2 : v6.frozen? ⟨r2, 2, none⟩ = false := frozen_of_row _ _ _ _ _ rr6
            obtain ⟨vx, hvx⟩ : ∃ v, Hid (v6.alloc (.cells #[.int .i64 (kw (some ⟨lw, lh, lps⟩)), .int .i64 (kh (some ⟨lw, lh, lps⟩)), .slice A6 n6 c6] 30) = v) := ⟨_, rfl⟩
            have bx : Below v6.heap.size v6 vx := by rw [← hvx.out]; exact (Below.refl _ _).alloc (Nat.le_refl _) _
            have bxc0 : vx.cell? ⟨v6.heap.size, 0, none⟩ = some (.int .i64 (kw (some ⟨lw, lh, lps⟩))) := by rw [← hvx.out, cell_of_row _ _ _ _ _ _ (heap_alloc_new v6 _)]; rfl
            have bxc1 : vx.cell? ⟨v6.heap.size, 1, none⟩ = some (.int .i64 (kh (some ⟨lw, lh, lps⟩))) := by rw [← hvx.out, cell_of_row _ _ _ _ _ _ (heap_alloc_new v6 _)]; rfl
            have bxc2 : vx.cell? ⟨v6.heap.size, 2, none⟩ = some (.slice A6 n6 c6) := by rw [← hvx.out, cell_of_row _ _ _ _ _ _ (heap_alloc_new v6 _)]; rfl
            have BX := B6.trans (bx.mono S6)
            have OX := HO6.below bx
            have rrx := (bx.block r2 hr6).trans rr6
            have xz0 : vx.cell? ⟨r2, 0, none⟩ = some (.int .i64 0) := by rw [cell_of_row _ _ _ _ _ _ rrx]; rfl
            have xf0 : vx.frozen? ⟨r2, 0, none⟩ = false := frozen_of_row _ _ _ _ _ rrx
            have xz1 : vx.cell? ⟨r2, 1, none⟩ = some (.int .i64 0) := by rw [cell_of_row _ _ _ _ _ _ rrx]; rfl
            have xf1 : vx.frozen? ⟨r2, 1, none⟩ = false := frozen_of_row _ _ _ _ _ rrx
            have xz2 : vx.cell? ⟨r2, 2, none⟩ = some (.slice none 0 0) := by rw [cell_of_row _ _ _ _ _ _ rrx]; rfl
            have xf2 : vx.frozen? ⟨r2, 2, none⟩ = false := frozen_of_row _ _ _ _ _ rrx
            have HOX := Lib.hid OX
            have HBX := Lib.hid BX
            have HSX := Lib.hid (And.intro BS bx.size)
            clear OX BX BS bx HO6
            go_wp2_with (rw [hvx.out])
            rw [← HF.out]
            obtain ⟨hsx1, hsx2⟩ := HSX.out
            refine bodyPost_ret (v := .tuple #[.agg #[.int .i64 (kw (some ⟨lw, lh, lps⟩)), .int .i64 (kh (some ⟨lw, lh, lps⟩)), .slice A6 n6 c6], .bool true]) (by simp [results, Try.results46, go_sem, World.cell?_setCell_same', World.cell?_setCell_other, xz0, xz1, xz2]) rfl ⟨A6, n6, c6, rfl, hk6, ?_, below_set (below_set (below_set HBX.out hr2W _) hr2W _) hr2W _⟩
            exact (own_set (own_set (own_set HOX.out (.inl HR5.out) _ _) (.inl HR5.out) _ _) (.inl HR5.out) _ _).mono hsx1 (by rw [set_size, set_size, set_size]; exact hsx2)
      · go_simp
        obtain ⟨jd, hjd⟩ : ∃ j, Hid (v1.heap.size = j) := ⟨_, rfl⟩
        obtain ⟨v2, hv2⟩ : ∃ v, Hid (v1.alloc (.cells #[.slice none 0 0, .slice none 0 0] 99) = v) := ⟨_, rfl⟩
        have rd : v2.heap[jd]? = some (.cells #[.slice none 0 0, .slice none 0 0] 99 (0, 0)) := by rw [← hv2.out, ← hjd.out]; exact heap_alloc_new v1 _
        have bb2 : Below v1.heap.size v1 v2 := by rw [← hv2.out]; exact (Below.refl _ _).alloc (Nat.le_refl _) _
        have zd : v1.heap.size = jd ∧ v2.heap.size = jd + 1 := by rw [← hv2.out, ← hjd.out]; simp
        have Zd := Lib.hid zd
        rw [hv2.out, hjd.out]
        refine hK.out _ _ (keep5 hHeld bb2) (fun hHeld => ?_)
        clear hK K; (try simp only [Act.put, List.setIfInBounds_toArray, List.set_cons_zero, List.set_cons_succ])
        have R2 := R1.below bb2
        have B2 := B1.trans (bb2.mono S1)
        have S2 := B2.size
        have rr0 := (bb2.block r2 (by have := Q1.out; omega)).trans rr0
        have ra := (bb2.block ja (by have := Za.out; have := Q1.out; omega)).trans ra
        have Q2 : Hid (v1.heap.size ≤ v2.heap.size) := bb2.size
        clear bb2 zd
        refine wpAnyH_ready (rs := [4]) (by kernel_rfl) (by simp) ?_
        refine AllReadyH.cons (o := _) rfl (fun K hK => ?_) AllReadyH.nil
        · go_simp
          refine (divI_any w h A n c ps up at' _ R2 hN HK.out).mono ?_
          rintro e v3 ⟨A1, n1, c1, A2, n2, c2, N1, m1, d1, N2, m2, d2, rfl, hPA, hPB, _, _, _, bb3⟩
          refine hK.out _ _ (keep5 hHeld bb3) (fun hHeld => ?_)
          clear hK K; (try simp only [Act.put, List.setIfInBounds_toArray, List.set_cons_zero, List.set_cons_succ])
          have R3 := R2.below bb3
          have B3 := B2.trans (bb3.mono S2)
          have S3 := B3.size
          have rr0 := (bb3.block r2 (by have := Q1.out; have := Q2.out; omega)).trans rr0
          have ra := (bb3.block ja (by have := Za.out; have := Q1.out; have := Q2.out; omega)).trans ra
          have rd := (bb3.block jd (by have := Zd.out; have := Q1.out; have := Q2.out; omega)).trans rd
          have Q3 : Hid (v2.heap.size ≤ v3.heap.size) := bb3.size
          clear bb3
          (refine take_yes (i := 5) (d := some 33) (v := ?_) rfl rfl (by kernel_rfl) (by kernel_rfl) (by kernel_rfl) (by rfl) (fun _ _ _ h => h) ?_ (by assumption) ?_; rotate_left; focus ((intro w' hSw; (try dsimp only at hSw); go_simp) <;> with_reducible rfl)); (try simp only [Act.put, List.setIfInBounds_toArray, List.set_cons_zero, List.set_cons_succ])
          (refine take_yes (i := 6) (d := some 39) (v := ?_) rfl rfl (by kernel_rfl) (by kernel_rfl) (by kernel_rfl) (by rfl) (fun _ _ _ h => h) ?_ (by assumption) ?_; rotate_left; focus ((intro w' hSw; (try dsimp only at hSw); go_simp) <;> with_reducible rfl)); (try simp only [Act.put, List.setIfInBounds_toArray, List.set_cons_zero, List.set_cons_succ])
          (refine take_yes (i := 7) (d := some 40) (v := ?_) rfl rfl (by kernel_rfl) (by kernel_rfl) (by kernel_rfl) (by rfl) (fun _ _ _ h => h) ?_ (by assumption) ?_; rotate_left; focus ((intro w' hSw; (try dsimp only at hSw); go_simp) <;> with_reducible rfl)); (try simp only [Act.put, List.setIfInBounds_toArray, List.set_cons_zero, List.set_cons_succ])
          have N : Hid (¬ jb = ja ∧ ¬ jb = jd ∧ ¬ b = ja ∧ ¬ b = jd ∧ ¬ ja = jd ∧ W.heap.size ≤ ja ∧ W.heap.size ≤ jd ∧ ¬ r2 = ja ∧ ¬ r2 = jd) := by have h1 := Za.out; have h2 := Zd.out; have h3 := Q1.out; have h4 := Q2.out; have h5 := Q3.out; refine ⟨?_, ?_, ?_, ?_, ?_, ?_, ?_, ?_, ?_⟩ <;> omega
          have NA : Hid ((ja < v2.heap.size ∨ v3.heap.size ≤ ja) ∧ (jd < v2.heap.size ∨ v3.heap.size ≤ jd)) := by have h1 := Za.out; have h2 := Zd.out; have h3 := Q1.out; have h4 := Q2.out; have h5 := Q3.out; refine ⟨?_, ?_⟩ <;> omega
          obtain ⟨n1_, n2_, n3_, n4_, n5_, n6_, n7_, n8_, n9_⟩ := N.out
          obtain ⟨na_, nd_⟩ := NA.out
          have hn1_ := hPA.len
          have hn2_ := hPB.len
          have HLA := Lib.hid hn1_
          have HLB := Lib.hid hn2_
          clear hn1_ hn2_
          have sa0 : v3.cell? ⟨ja, 0, none⟩ = some (.int .i64 0) := by rw [cell_of_row _ _ _ _ _ _ ra]; rfl
          have ga0 : v3.frozen? ⟨ja, 0, none⟩ = false := frozen_of_row _ _ _ _ _ ra
          have sa1 : v3.cell? ⟨ja, 1, none⟩ = some (.int .i64 0) := by rw [cell_of_row _ _ _ _ _ _ ra]; rfl
          have ga1 : v3.frozen? ⟨ja, 1, none⟩ = false := frozen_of_row _ _ _ _ _ ra
          have sa2 : v3.cell? ⟨ja, 2, none⟩ = some (.slice none 0 0) := by rw [cell_of_row _ _ _ _ _ _ ra]; rfl
          have ga2 : v3.frozen? ⟨ja, 2, none⟩ = false := frozen_of_row _ _ _ _ _ ra
          have sa3 : v3.cell? ⟨ja, 3, none⟩ = some (.int .i64 0) := by rw [cell_of_row _ _ _ _ _ _ ra]; rfl
          have ga3 : v3.frozen? ⟨ja, 3, none⟩ = false := frozen_of_row _ _ _ _ _ ra
          have sa4 : v3.cell? ⟨ja, 4, none⟩ = some (.int .i64 0) := by rw [cell_of_row _ _ _ _ _ _ ra]; rfl
          have ga4 : v3.frozen? ⟨ja, 4, none⟩ = false := frozen_of_row _ _ _ _ _ ra
          have sa5 : v3.cell? ⟨ja, 5, none⟩ = some (.slice none 0 0) := by rw [cell_of_row _ _ _ _ _ _ ra]; rfl
          have ga5 : v3.frozen? ⟨ja, 5, none⟩ = false := frozen_of_row _ _ _ _ _ ra
          obtain ⟨v4, hv4⟩ : ∃ v, Hid (((((((v3.setCell ⟨ja, 0, none⟩ (.int .i64 (wA w ⟨up, at'⟩))).setCell ⟨ja, 1, none⟩ (.int .i64 (hA h ⟨up, at'⟩))).setCell ⟨ja, 2, none⟩ (.slice A1 n1 c1)).setCell ⟨ja, 3, none⟩ (.int .i64 (wB w ⟨up, at'⟩))).setCell ⟨ja, 4, none⟩ (.int .i64 (hB h ⟨up, at'⟩))).setCell ⟨ja, 5, none⟩ (.slice A2 n2 c2)) = v) := ⟨_, rfl⟩
          refine wpAnyH_ready (rs := [10]) (by kernel_rfl) (by simp) ?_; refine AllReadyH.cons (o := _) rfl (fun K hK => ?_) AllReadyH.nil; go_simp
          rw [hv4.out]
          have ta := row_set (o := 5) (.slice A2 n2 c2) (row_set (o := 4) (.int .i64 (hB h ⟨up, at'⟩)) (row_set (o := 3) (.int .i64 (wB w ⟨up, at'⟩)) (row_set (o := 2) (.slice A1 n1 c1) (row_set (o := 1) (.int .i64 (hA h ⟨up, at'⟩)) (row_set (o := 0) (.int .i64 (wA w ⟨up, at'⟩)) (ra))))))
          rw [hv4.out] at ta
          have hfara : ∀ g, g ≠ ja → v4.heap[g]? = v3.heap[g]? := fun g hg => by rw [← hv4.out, row_far _ hg, row_far _ hg, row_far _ hg, row_far _ hg, row_far _ hg, row_far _ hg]
          refine hK.out _ _ ⟨cell_blk hHeld.1 (hfara jb n1_), cell_blk hHeld.2.1 (hfara jb n1_), cell_blk hHeld.2.2.1 (hfara jb n1_), cell_blk hHeld.2.2.2.1 (hfara b n3_), cell_blk hHeld.2.2.2.2 (hfara b n3_)⟩ (fun hHeld => ?_)
          clear hK K; (try simp only [Act.put, List.setIfInBounds_toArray, List.set_cons_zero, List.set_cons_succ])
          clear sa0 ga0 sa1 ga1 sa2 ga2 sa3 ga3 sa4 ga4 sa5 ga5
          have hPA := own_set (own_set (own_set (own_set (own_set (own_set (hPA) na_ 0 (.int .i64 (wA w ⟨up, at'⟩))) na_ 1 (.int .i64 (hA h ⟨up, at'⟩))) na_ 2 (.slice A1 n1 c1)) na_ 3 (.int .i64 (wB w ⟨up, at'⟩))) na_ 4 (.int .i64 (hB h ⟨up, at'⟩))) na_ 5 (.slice A2 n2 c2)
          have hPB := own_set (own_set (own_set (own_set (own_set (own_set (hPB) na_ 0 (.int .i64 (wA w ⟨up, at'⟩))) na_ 1 (.int .i64 (hA h ⟨up, at'⟩))) na_ 2 (.slice A1 n1 c1)) na_ 3 (.int .i64 (wB w ⟨up, at'⟩))) na_ 4 (.int .i64 (hB h ⟨up, at'⟩))) na_ 5 (.slice A2 n2 c2)
          rw [hv4.out] at hPA hPB
          have BB := below_set (below_set (below_set (below_set (below_set (below_set (B3) n6_ (o := 0) (.int .i64 (wA w ⟨up, at'⟩))) n6_ (o := 1) (.int .i64 (hA h ⟨up, at'⟩))) n6_ (o := 2) (.slice A1 n1 c1)) n6_ (o := 3) (.int .i64 (wB w ⟨up, at'⟩))) n6_ (o := 4) (.int .i64 (hB h ⟨up, at'⟩))) n6_ (o := 5) (.slice A2 n2 c2)
          rw [hv4.out] at BB
          have rr0 := (hfara r2 n8_).trans rr0
          have rd := (hfara jd (fun e => n5_ e.symm)).trans rd
          have sd0 : v4.cell? ⟨jd, 0, none⟩ = some (.slice none 0 0) := by rw [cell_of_row _ _ _ _ _ _ rd]; rfl
          have gd0 : v4.frozen? ⟨jd, 0, none⟩ = false := frozen_of_row _ _ _ _ _ rd
          have sd1 : v4.cell? ⟨jd, 1, none⟩ = some (.slice none 0 0) := by rw [cell_of_row _ _ _ _ _ _ rd]; rfl
          have gd1 : v4.frozen? ⟨jd, 1, none⟩ = false := frozen_of_row _ _ _ _ _ rd
          obtain ⟨v5, hv5⟩ : ∃ v, Hid (((v4.setCell ⟨jd, 0, none⟩ (.slice N1 m1 d1)).setCell ⟨jd, 1, none⟩ (.slice N2 m2 d2)) = v) := ⟨_, rfl⟩
          refine wpAnyH_ready (rs := [11]) (by kernel_rfl) (by simp) ?_; refine AllReadyH.cons (o := _) rfl (fun K hK => ?_) AllReadyH.nil; go_simp
          rw [hv5.out]
          have td := row_set (o := 1) (.slice N2 m2 d2) (row_set (o := 0) (.slice N1 m1 d1) (rd))
          rw [hv5.out] at td
          have hfard : ∀ g, g ≠ jd → v5.heap[g]? = v4.heap[g]? := fun g hg => by rw [← hv5.out, row_far _ hg, row_far _ hg]
          refine hK.out _ _ ⟨cell_blk hHeld.1 (hfard jb n2_), cell_blk hHeld.2.1 (hfard jb n2_), cell_blk hHeld.2.2.1 (hfard jb n2_), cell_blk hHeld.2.2.2.1 (hfard b n4_), cell_blk hHeld.2.2.2.2 (hfard b n4_)⟩ (fun hHeld => ?_)
          clear hK K; (try simp only [Act.put, List.setIfInBounds_toArray, List.set_cons_zero, List.set_cons_succ])
          clear sd0 gd0 sd1 gd1
          have hPA := own_set (own_set (hPA) nd_ 0 (.slice N1 m1 d1)) nd_ 1 (.slice N2 m2 d2)
          have hPB := own_set (own_set (hPB) nd_ 0 (.slice N1 m1 d1)) nd_ 1 (.slice N2 m2 d2)
          rw [hv5.out] at hPA hPB
          have BB := below_set (below_set (BB) n7_ (o := 0) (.slice N1 m1 d1)) n7_ (o := 1) (.slice N2 m2 d2)
          rw [hv5.out] at BB
          have rr0 := (hfard r2 n9_).trans rr0
          have ra := (hfard ja n5_).trans ta
          have rd := td
          refine wpAnyH_done (by kernel_rfl) ?_ _
          have ya0 : v5.cell? ⟨ja, 0, none⟩ = some (.int .i64 (wA w ⟨up, at'⟩)) := by rw [cell_of_row _ _ _ _ _ _ ra]; rfl
          have ya1 : v5.cell? ⟨ja, 1, none⟩ = some (.int .i64 (hA h ⟨up, at'⟩)) := by rw [cell_of_row _ _ _ _ _ _ ra]; rfl
          have ya2 : v5.cell? ⟨ja, 2, none⟩ = some (.slice A1 n1 c1) := by rw [cell_of_row _ _ _ _ _ _ ra]; rfl
          have ya3 : v5.cell? ⟨ja, 3, none⟩ = some (.int .i64 (wB w ⟨up, at'⟩)) := by rw [cell_of_row _ _ _ _ _ _ ra]; rfl
          have ya4 : v5.cell? ⟨ja, 4, none⟩ = some (.int .i64 (hB h ⟨up, at'⟩)) := by rw [cell_of_row _ _ _ _ _ _ ra]; rfl
          have ya5 : v5.cell? ⟨ja, 5, none⟩ = some (.slice A2 n2 c2) := by rw [cell_of_row _ _ _ _ _ _ ra]; rfl
          have hn1 : n1 ≤ 1048576 := by have h1 := HLA.out; have h2 := pA_len ⟨up, at'⟩ ps; have h3 := HLEN.out; omega
          have hn2 : n2 ≤ 1048576 := by have h1 := HLB.out; have h2 := pB_len ⟨up, at'⟩ ps; have h3 := HLEN.out; omega
          have hPA := hPA.rd
          have hPB := hPB.rd
          have BS := BB.size
          have hr5 := heap_lt rr0
          clear ra rd ta td hfara hfard hHeld n1_ n2_ n3_ n4_ n5_ n6_ n7_ n8_ n9_ na_ nd_
          go_wp2_with fail
          refine (ih _ _ _ _ _ (partA ⟨up, at'⟩ ps) _ hsA hPA hn1).mono ?_
          rintro e v6 ⟨A6, n6, c6, rfl, hk6, hO6, bb6⟩
          have ya3 := keepcell ya3 bb6
          have ya4 := keepcell ya4 bb6
          have ya5 := keepcell ya5 bb6
          have hPB := hPB.below bb6
          have B6 := BB.trans (bb6.mono BS)
          have S6 := B6.size
          have rr6 := (bb6.block r2 hr5).trans rr0
          have hr6 := heap_lt rr6
          have HR5 := Lib.hid hr5
          rcases hfa : firstKnot ⟨wA w ⟨up, at'⟩, hA h ⟨up, at'⟩, partA ⟨up, at'⟩ ps⟩ with _ | l
          · have HF := Lib.hid (show firstKnot ⟨wB w ⟨up, at'⟩, hB h ⟨up, at'⟩, partB ⟨up, at'⟩ ps⟩ = firstKnot ⟨w, h, ps⟩ by rw [HC.out]; show _ = (match firstKnot ⟨wA w ⟨up, at'⟩, hA h ⟨up, at'⟩, partA ⟨up, at'⟩ ps⟩ with | some k => some k | none => firstKnot ⟨wB w ⟨up, at'⟩, hB h ⟨up, at'⟩, partB ⟨up, at'⟩ ps⟩); rw [hfa])
            clear hO6
            obtain ⟨vx, hvx⟩ : ∃ v, Hid (v6.alloc (.cells #[.int .i64 (kw none), .int .i64 (kh none), .slice A6 n6 c6] 30) = v) := ⟨_, rfl⟩
            have bx : Below v6.heap.size v6 vx := by rw [← hvx.out]; exact (Below.refl _ _).alloc (Nat.le_refl _) _
            have xya3 := keepcell ya3 bx
            have xya4 := keepcell ya4 bx
            have xya5 := keepcell ya5 bx
            go_wp2_with (rw [hvx.out])
            have hPB7 := hPB.below bx
            have rr7 := (bx.block r2 hr6).trans rr6
            have B7 := B6.trans (bx.mono S6)
            have S7 := B7.size
            have hr7 := heap_lt rr7
            refine (ih _ _ _ _ _ (partB ⟨up, at'⟩ ps) _ hsB hPB7 hn2).mono ?_
            rintro e v8 ⟨A8, n8, c8, rfl, hk8, hO8, bb8⟩
            have B8 := B7.trans (bb8.mono S7)
            have rr8 := (bb8.block r2 hr7).trans rr7
            rw [HF.out] at hO8 ⊢
            have zz0 : v8.cell? ⟨r2, 0, none⟩ = some (.int .i64 0) := by rw [cell_of_row _ _ _ _ _ _ rr8]; rfl
            have zf0 : v8.frozen? ⟨r2, 0, none⟩ = false := frozen_of_row _ _ _ _ _ rr8
            have zz1 : v8.cell? ⟨r2, 1, none⟩ = some (.int .i64 0) := by rw [cell_of_row _ _ _ _ _ _ rr8]; rfl
            have zf1 : v8.frozen? ⟨r2, 1, none⟩ = false := frozen_of_row _ _ _ _ _ rr8
            have zz2 : v8.cell? ⟨r2, 2, none⟩ = some (.slice none 0 0) := by rw [cell_of_row _ _ _ _ _ _ rr8]; rfl
            have zf2 : v8.frozen? ⟨r2, 2, none⟩ = false := frozen_of_row _ _ _ _ _ rr8
            have HO8 := Lib.hid hO8
            have HB8 := Lib.hid B8
            have HR7 := Lib.hid (And.intro hr7 S7)
            clear hO8 B8 hr7 S7 hfa
            go_wp2
            refine bodyPost_ret (v := .tuple #[.agg #[.int .i64 (kw (firstKnot ⟨w, h, ps⟩)), .int .i64 (kh (firstKnot ⟨w, h, ps⟩)), .slice A8 n8 c8], .bool (firstKnot ⟨w, h, ps⟩).isSome]) (by simp [results, Try.results46, go_sem, World.cell?_setCell_same', World.cell?_setCell_other, zz0, zz1, zz2]) rfl ⟨A8, n8, c8, rfl, hk8, ?_, below_set (below_set (below_set HB8.out hr2W _) hr2W _) hr2W _⟩
            exact (own_set (own_set (own_set HO8.out (.inl HR7.out.1) _ _) (.inl HR7.out.1) _ _) (.inl HR7.out.1) _ _).mono HR7.out.2 (by rw [set_size, set_size, set_size]; exact Nat.le_refl _)
          · have HF := Lib.hid (show some l = firstKnot ⟨w, h, ps⟩ by rw [HC.out]; show _ = (match firstKnot ⟨wA w ⟨up, at'⟩, hA h ⟨up, at'⟩, partA ⟨up, at'⟩ ps⟩ with | some k => some k | none => firstKnot ⟨wB w ⟨up, at'⟩, hB h ⟨up, at'⟩, partB ⟨up, at'⟩ ps⟩); rw [hfa])
            rw [hfa] at hO6
            clear hPB
            obtain ⟨lw, lh, lps⟩ := l
            have HO6 : Own v6 v5.heap.size v6.heap.size A6 n6 5 lps patchC := hO6
            clear hO6
            have zz0 : v6.cell? ⟨r2, 0, none⟩ = some (.int .i64 0) := by rw [cell_of_row _ _ _ _ _ _ rr6]; rfl
            have zf0 : v6.frozen? ⟨r2, 0, none⟩ = false := frozen_of_row _ _ _ _ _ rr6
            have zz1 : v6.cell? ⟨r2, 1, none⟩ = some (.int .i64 0) := by rw [cell_of_row _ _ _ _ _ _ rr6]; rfl
            have zf1 : v6.frozen? ⟨r2, 1, none⟩ = false := frozen_of_row _ _ _ _ _ rr6
            have zz2 : v6.cell? ⟨r2, 2, none⟩ = some (.slice none 0 0) := by rw [cell_of_row _ _ _ _ _ _ rr6]; rfl
            have zf2 : v6.frozen? ⟨r2, 2, none⟩ = false := frozen_of_row _ _ _ _ _ rr6
            obtain ⟨vx, hvx⟩ : ∃ v, Hid (v6.alloc (.cells #[.int .i64 (kw (some ⟨lw, lh, lps⟩)), .int .i64 (kh (some ⟨lw, lh, lps⟩)), .slice A6 n6 c6] 30) = v) := ⟨_, rfl⟩
            have bx : Below v6.heap.size v6 vx := by rw [← hvx.out]; exact (Below.refl _ _).alloc (Nat.le_refl _) _
            have bxc0 : vx.cell? ⟨v6.heap.size, 0, none⟩ = some (.int .i64 (kw (some ⟨lw, lh, lps⟩))) := by rw [← hvx.out, cell_of_row _ _ _ _ _ _ (heap_alloc_new v6 _)]; rfl
            have bxc1 : vx.cell? ⟨v6.heap.size, 1, none⟩ = some (.int .i64 (kh (some ⟨lw, lh, lps⟩))) := by rw [← hvx.out, cell_of_row _ _ _ _ _ _ (heap_alloc_new v6 _)]; rfl
            have bxc2 : vx.cell? ⟨v6.heap.size, 2, none⟩ = some (.slice A6 n6 c6) := by rw [← hvx.out, cell_of_row _ _ _ _ _ _ (heap_alloc_new v6 _)]; rfl
            have BX := B6.trans (bx.mono S6)
            have OX := HO6.below bx
            have rrx := (bx.block r2 hr6).trans rr6
            have xz0 : vx.cell? ⟨r2, 0, none⟩ = some (.int .i64 0) := by rw [cell_of_row _ _ _ _ _ _ rrx]; rfl
            have xf0 : vx.frozen? ⟨r2, 0, none⟩ = false := frozen_of_row _ _ _ _ _ rrx
            have xz1 : vx.cell? ⟨r2, 1, none⟩ = some (.int .i64 0) := by rw [cell_of_row _ _ _ _ _ _ rrx]; rfl
            have xf1 : vx.frozen? ⟨r2, 1, none⟩ = false := frozen_of_row _ _ _ _ _ rrx
            have xz2 : vx.cell? ⟨r2, 2, none⟩ = some (.slice none 0 0) := by rw [cell_of_row _ _ _ _ _ _ rrx]; rfl
            have xf2 : vx.frozen? ⟨r2, 2, none⟩ = false := frozen_of_row _ _ _ _ _ rrx
            have HOX := Lib.hid OX
            have HBX := Lib.hid BX
            have HSX := Lib.hid (And.intro BS bx.size)
            clear OX BX BS bx HO6
            go_wp2_with (rw [hvx.out])
            rw [← HF.out]
            obtain ⟨hsx1, hsx2⟩ := HSX.out
            refine bodyPost_ret (v := .tuple #[.agg #[.int .i64 (kw (some ⟨lw, lh, lps⟩)), .int .i64 (kh (some ⟨lw, lh, lps⟩)), .slice A6 n6 c6], .bool true]) (by simp [results, Try.results46, go_sem, World.cell?_setCell_same', World.cell?_setCell_other, xz0, xz1, xz2]) rfl ⟨A6, n6, c6, rfl, hk6, ?_, below_set (below_set (below_set HBX.out hr2W _) hr2W _) hr2W _⟩
            exact (own_set (own_set (own_set HOX.out (.inl HR5.out) _ _) (.inl HR5.out) _ _) (.inl HR5.out) _ _).mono hsx1 (by rw [set_size, set_size, set_size]; exact hsx2)
    · go_simp
      obtain ⟨jd, hjd⟩ : ∃ j, Hid (v0.heap.size = j) := ⟨_, rfl⟩
      obtain ⟨v1, hv1⟩ : ∃ v, Hid (v0.alloc (.cells #[.slice none 0 0, .slice none 0 0] 99) = v) := ⟨_, rfl⟩
      have rd : v1.heap[jd]? = some (.cells #[.slice none 0 0, .slice none 0 0] 99 (0, 0)) := by rw [← hv1.out, ← hjd.out]; exact heap_alloc_new v0 _
      have bb1 : Below v0.heap.size v0 v1 := by rw [← hv1.out]; exact (Below.refl _ _).alloc (Nat.le_refl _) _
      have zd : v0.heap.size = jd ∧ v1.heap.size = jd + 1 := by rw [← hv1.out, ← hjd.out]; simp
      have Zd := Lib.hid zd
      rw [hv1.out, hjd.out]
      refine hK.out _ _ (keep5 hHeld bb1) (fun hHeld => ?_)
      clear hK K; (try simp only [Act.put, List.setIfInBounds_toArray, List.set_cons_zero, List.set_cons_succ])
      have R1 := hR0.below bb1
      have B1 := hB0.trans (bb1.mono hs0)
      have S1 := B1.size
      have rr0 := (bb1.block r2 (by  omega)).trans rr0
      have Q1 : Hid (v0.heap.size ≤ v1.heap.size) := bb1.size
      clear bb1 zd
      refine wpAnyH_ready (rs := [4, 8]) (by kernel_rfl) (by simp) ?_
      refine AllReadyH.cons (o := _) rfl (fun K hK => ?_) (AllReadyH.cons (o := _) rfl (fun K hK => ?_) AllReadyH.nil)
      · go_simp
        refine (divI_any w h A n c ps up at' _ R1 hN HK.out).mono ?_
        rintro e v2 ⟨A1, n1, c1, A2, n2, c2, N1, m1, d1, N2, m2, d2, rfl, hPA, hPB, _, _, _, bb2⟩
        refine hK.out _ _ (keep5 hHeld bb2) (fun hHeld => ?_)
        clear hK K; (try simp only [Act.put, List.setIfInBounds_toArray, List.set_cons_zero, List.set_cons_succ])
        have R2 := R1.below bb2
        have B2 := B1.trans (bb2.mono S1)
        have S2 := B2.size
        have rr0 := (bb2.block r2 (by have := Q1.out; omega)).trans rr0
        have rd := (bb2.block jd (by have := Zd.out; have := Q1.out; omega)).trans rd
        have Q2 : Hid (v1.heap.size ≤ v2.heap.size) := bb2.size
        clear bb2
        (refine take_yes (i := 5) (d := some 33) (v := ?_) rfl rfl (by kernel_rfl) (by kernel_rfl) (by kernel_rfl) (by rfl) (fun _ _ _ h => h) ?_ (by assumption) ?_; rotate_left; focus ((intro w' hSw; (try dsimp only at hSw); go_simp) <;> with_reducible rfl)); (try simp only [Act.put, List.setIfInBounds_toArray, List.set_cons_zero, List.set_cons_succ])
        (refine take_yes (i := 6) (d := some 39) (v := ?_) rfl rfl (by kernel_rfl) (by kernel_rfl) (by kernel_rfl) (by rfl) (fun _ _ _ h => h) ?_ (by assumption) ?_; rotate_left; focus ((intro w' hSw; (try dsimp only at hSw); go_simp) <;> with_reducible rfl)); (try simp only [Act.put, List.setIfInBounds_toArray, List.set_cons_zero, List.set_cons_succ])
        (refine take_yes (i := 7) (d := some 40) (v := ?_) rfl rfl (by kernel_rfl) (by kernel_rfl) (by kernel_rfl) (by rfl) (fun _ _ _ h => h) ?_ (by assumption) ?_; rotate_left; focus ((intro w' hSw; (try dsimp only at hSw); go_simp) <;> with_reducible rfl)); (try simp only [Act.put, List.setIfInBounds_toArray, List.set_cons_zero, List.set_cons_succ])
        refine wpAnyH_ready (rs := [8]) (by kernel_rfl) (by simp) ?_
        refine AllReadyH.cons (o := _) rfl (fun K hK => ?_) AllReadyH.nil
        · go_simp
          obtain ⟨ja, hja⟩ : ∃ j, Hid (v2.heap.size = j) := ⟨_, rfl⟩
          obtain ⟨v3, hv3⟩ : ∃ v, Hid (v2.alloc (.cells #[.int .i64 0, .int .i64 0, .slice none 0 0, .int .i64 0, .int .i64 0, .slice none 0 0] 98) = v) := ⟨_, rfl⟩
          have ra : v3.heap[ja]? = some (.cells #[.int .i64 0, .int .i64 0, .slice none 0 0, .int .i64 0, .int .i64 0, .slice none 0 0] 98 (0, 0)) := by rw [← hv3.out, ← hja.out]; exact heap_alloc_new v2 _
          have bb3 : Below v2.heap.size v2 v3 := by rw [← hv3.out]; exact (Below.refl _ _).alloc (Nat.le_refl _) _
          have za : v2.heap.size = ja ∧ v3.heap.size = ja + 1 := by rw [← hv3.out, ← hja.out]; simp
          have Za := Lib.hid za
          rw [hv3.out, hja.out]
          refine hK.out _ _ (keep5 hHeld bb3) (fun hHeld => ?_)
          clear hK K; (try simp only [Act.put, List.setIfInBounds_toArray, List.set_cons_zero, List.set_cons_succ])
          have R3 := R2.below bb3
          have B3 := B2.trans (bb3.mono S2)
          have S3 := B3.size
          have rr0 := (bb3.block r2 (by have := Q1.out; have := Q2.out; omega)).trans rr0
          have rd := (bb3.block jd (by have := Zd.out; have := Q1.out; have := Q2.out; omega)).trans rd
          have hPA := hPA.below bb3
          have hPB := hPB.below bb3
          have Q3 : Hid (v2.heap.size ≤ v3.heap.size) := bb3.size
          clear bb3 za
          have N : Hid (¬ jb = ja ∧ ¬ jb = jd ∧ ¬ b = ja ∧ ¬ b = jd ∧ ¬ ja = jd ∧ W.heap.size ≤ ja ∧ W.heap.size ≤ jd ∧ ¬ r2 = ja ∧ ¬ r2 = jd) := by have h1 := Za.out; have h2 := Zd.out; have h3 := Q1.out; have h4 := Q2.out; have h5 := Q3.out; refine ⟨?_, ?_, ?_, ?_, ?_, ?_, ?_, ?_, ?_⟩ <;> omega
          have NA : Hid ((ja < v1.heap.size ∨ v2.heap.size ≤ ja) ∧ (jd < v1.heap.size ∨ v2.heap.size ≤ jd)) := by have h1 := Za.out; have h2 := Zd.out; have h3 := Q1.out; have h4 := Q2.out; have h5 := Q3.out; refine ⟨?_, ?_⟩ <;> omega
          obtain ⟨n1_, n2_, n3_, n4_, n5_, n6_, n7_, n8_, n9_⟩ := N.out
          obtain ⟨na_, nd_⟩ := NA.out
          have hn1_ := hPA.len
          have hn2_ := hPB.len
          have HLA := Lib.hid hn1_
          have HLB := Lib.hid hn2_
          clear hn1_ hn2_
          have sa0 : v3.cell? ⟨ja, 0, none⟩ = some (.int .i64 0) := by rw [cell_of_row _ _ _ _ _ _ ra]; rfl
          have ga0 : v3.frozen? ⟨ja, 0, none⟩ = false := frozen_of_row _ _ _ _ _ ra
          have sa1 : v3.cell? ⟨ja, 1, none⟩ = some (.int .i64 0) := by rw [cell_of_row _ _ _ _ _ _ ra]; rfl
          have ga1 : v3.frozen? ⟨ja, 1, none⟩ = false := frozen_of_row _ _ _ _ _ ra
          have sa2 : v3.cell? ⟨ja, 2, none⟩ = some (.slice none 0 0) := by rw [cell_of_row _ _ _ _ _ _ ra]; rfl
          have ga2 : v3.frozen? ⟨ja, 2, none⟩ = false := frozen_of_row _ _ _ _ _ ra
          have sa3 : v3.cell? ⟨ja, 3, none⟩ = some (.int .i64 0) := by rw [cell_of_row _ _ _ _ _ _ ra]; rfl
          have ga3 : v3.frozen? ⟨ja, 3, none⟩ = false := frozen_of_row _ _ _ _ _ ra
          have sa4 : v3.cell? ⟨ja, 4, none⟩ = some (.int .i64 0) := by rw [cell_of_row _ _ _ _ _ _ ra]; rfl
          have ga4 : v3.frozen? ⟨ja, 4, none⟩ = false := frozen_of_row _ _ _ _ _ ra
          have sa5 : v3.cell? ⟨ja, 5, none⟩ = some (.slice none 0 0) := by rw [cell_of_row _ _ _ _ _ _ ra]; rfl
          have ga5 : v3.frozen? ⟨ja, 5, none⟩ = false := frozen_of_row _ _ _ _ _ ra
          obtain ⟨v4, hv4⟩ : ∃ v, Hid (((((((v3.setCell ⟨ja, 0, none⟩ (.int .i64 (wA w ⟨up, at'⟩))).setCell ⟨ja, 1, none⟩ (.int .i64 (hA h ⟨up, at'⟩))).setCell ⟨ja, 2, none⟩ (.slice A1 n1 c1)).setCell ⟨ja, 3, none⟩ (.int .i64 (wB w ⟨up, at'⟩))).setCell ⟨ja, 4, none⟩ (.int .i64 (hB h ⟨up, at'⟩))).setCell ⟨ja, 5, none⟩ (.slice A2 n2 c2)) = v) := ⟨_, rfl⟩
          refine wpAnyH_ready (rs := [10]) (by kernel_rfl) (by simp) ?_; refine AllReadyH.cons (o := _) rfl (fun K hK => ?_) AllReadyH.nil; go_simp
          rw [hv4.out]
          have ta := row_set (o := 5) (.slice A2 n2 c2) (row_set (o := 4) (.int .i64 (hB h ⟨up, at'⟩)) (row_set (o := 3) (.int .i64 (wB w ⟨up, at'⟩)) (row_set (o := 2) (.slice A1 n1 c1) (row_set (o := 1) (.int .i64 (hA h ⟨up, at'⟩)) (row_set (o := 0) (.int .i64 (wA w ⟨up, at'⟩)) (ra))))))
          rw [hv4.out] at ta
          have hfara : ∀ g, g ≠ ja → v4.heap[g]? = v3.heap[g]? := fun g hg => by rw [← hv4.out, row_far _ hg, row_far _ hg, row_far _ hg, row_far _ hg, row_far _ hg, row_far _ hg]
          refine hK.out _ _ ⟨cell_blk hHeld.1 (hfara jb n1_), cell_blk hHeld.2.1 (hfara jb n1_), cell_blk hHeld.2.2.1 (hfara jb n1_), cell_blk hHeld.2.2.2.1 (hfara b n3_), cell_blk hHeld.2.2.2.2 (hfara b n3_)⟩ (fun hHeld => ?_)
          clear hK K; (try simp only [Act.put, List.setIfInBounds_toArray, List.set_cons_zero, List.set_cons_succ])
          clear sa0 ga0 sa1 ga1 sa2 ga2 sa3 ga3 sa4 ga4 sa5 ga5
          have hPA := own_set (own_set (own_set (own_set (own_set (own_set (hPA) na_ 0 (.int .i64 (wA w ⟨up, at'⟩))) na_ 1 (.int .i64 (hA h ⟨up, at'⟩))) na_ 2 (.slice A1 n1 c1)) na_ 3 (.int .i64 (wB w ⟨up, at'⟩))) na_ 4 (.int .i64 (hB h ⟨up, at'⟩))) na_ 5 (.slice A2 n2 c2)
          have hPB := own_set (own_set (own_set (own_set (own_set (own_set (hPB) na_ 0 (.int .i64 (wA w ⟨up, at'⟩))) na_ 1 (.int .i64 (hA h ⟨up, at'⟩))) na_ 2 (.slice A1 n1 c1)) na_ 3 (.int .i64 (wB w ⟨up, at'⟩))) na_ 4 (.int .i64 (hB h ⟨up, at'⟩))) na_ 5 (.slice A2 n2 c2)
          rw [hv4.out] at hPA hPB
          have BB := below_set (below_set (below_set (below_set (below_set (below_set (B3) n6_ (o := 0) (.int .i64 (wA w ⟨up, at'⟩))) n6_ (o := 1) (.int .i64 (hA h ⟨up, at'⟩))) n6_ (o := 2) (.slice A1 n1 c1)) n6_ (o := 3) (.int .i64 (wB w ⟨up, at'⟩))) n6_ (o := 4) (.int .i64 (hB h ⟨up, at'⟩))) n6_ (o := 5) (.slice A2 n2 c2)
          rw [hv4.out] at BB
          have rr0 := (hfara r2 n8_).trans rr0
          have rd := (hfara jd (fun e => n5_ e.symm)).trans rd
          have sd0 : v4.cell? ⟨jd, 0, none⟩ = some (.slice none 0 0) := by rw [cell_of_row _ _ _ _ _ _ rd]; rfl
          have gd0 : v4.frozen? ⟨jd, 0, none⟩ = false := frozen_of_row _ _ _ _ _ rd
          have sd1 : v4.cell? ⟨jd, 1, none⟩ = some (.slice none 0 0) := by rw [cell_of_row _ _ _ _ _ _ rd]; rfl
          have gd1 : v4.frozen? ⟨jd, 1, none⟩ = false := frozen_of_row _ _ _ _ _ rd
          obtain ⟨v5, hv5⟩ : ∃ v, Hid (((v4.setCell ⟨jd, 0, none⟩ (.slice N1 m1 d1)).setCell ⟨jd, 1, none⟩ (.slice N2 m2 d2)) = v) := ⟨_, rfl⟩
          refine wpAnyH_ready (rs := [11]) (by kernel_rfl) (by simp) ?_; refine AllReadyH.cons (o := _) rfl (fun K hK => ?_) AllReadyH.nil; go_simp
          rw [hv5.out]
          have td := row_set (o := 1) (.slice N2 m2 d2) (row_set (o := 0) (.slice N1 m1 d1) (rd))
          rw [hv5.out] at td
          have hfard : ∀ g, g ≠ jd → v5.heap[g]? = v4.heap[g]? := fun g hg => by rw [← hv5.out, row_far _ hg, row_far _ hg]
          refine hK.out _ _ ⟨cell_blk hHeld.1 (hfard jb n2_), cell_blk hHeld.2.1 (hfard jb n2_), cell_blk hHeld.2.2.1 (hfard jb n2_), cell_blk hHeld.2.2.2.1 (hfard b n4_), cell_blk hHeld.2.2.2.2 (hfard b n4_)⟩ (fun hHeld => ?_)
          clear hK K; (try simp only [Act.put, List.setIfInBounds_toArray, List.set_cons_zero, List.set_cons_succ])
          clear sd0 gd0 sd1 gd1
          have hPA := own_set (own_set (hPA) nd_ 0 (.slice N1 m1 d1)) nd_ 1 (.slice N2 m2 d2)
          have hPB := own_set (own_set (hPB) nd_ 0 (.slice N1 m1 d1)) nd_ 1 (.slice N2 m2 d2)
          rw [hv5.out] at hPA hPB
          have BB := below_set (below_set (BB) n7_ (o := 0) (.slice N1 m1 d1)) n7_ (o := 1) (.slice N2 m2 d2)
          rw [hv5.out] at BB
          have rr0 := (hfard r2 n9_).trans rr0
          have ra := (hfard ja n5_).trans ta
          have rd := td
          refine wpAnyH_done (by kernel_rfl) ?_ _
          have ya0 : v5.cell? ⟨ja, 0, none⟩ = some (.int .i64 (wA w ⟨up, at'⟩)) := by rw [cell_of_row _ _ _ _ _ _ ra]; rfl
          have ya1 : v5.cell? ⟨ja, 1, none⟩ = some (.int .i64 (hA h ⟨up, at'⟩)) := by rw [cell_of_row _ _ _ _ _ _ ra]; rfl
          have ya2 : v5.cell? ⟨ja, 2, none⟩ = some (.slice A1 n1 c1) := by rw [cell_of_row _ _ _ _ _ _ ra]; rfl
          have ya3 : v5.cell? ⟨ja, 3, none⟩ = some (.int .i64 (wB w ⟨up, at'⟩)) := by rw [cell_of_row _ _ _ _ _ _ ra]; rfl
          have ya4 : v5.cell? ⟨ja, 4, none⟩ = some (.int .i64 (hB h ⟨up, at'⟩)) := by rw [cell_of_row _ _ _ _ _ _ ra]; rfl
          have ya5 : v5.cell? ⟨ja, 5, none⟩ = some (.slice A2 n2 c2) := by rw [cell_of_row _ _ _ _ _ _ ra]; rfl
          have hn1 : n1 ≤ 1048576 := by have h1 := HLA.out; have h2 := pA_len ⟨up, at'⟩ ps; have h3 := HLEN.out; omega
          have hn2 : n2 ≤ 1048576 := by have h1 := HLB.out; have h2 := pB_len ⟨up, at'⟩ ps; have h3 := HLEN.out; omega
          have hPA := hPA.rd
          have hPB := hPB.rd
          have BS := BB.size
          have hr5 := heap_lt rr0
          clear ra rd ta td hfara hfard hHeld n1_ n2_ n3_ n4_ n5_ n6_ n7_ n8_ n9_ na_ nd_
          go_wp2_with fail
          refine (ih _ _ _ _ _ (partA ⟨up, at'⟩ ps) _ hsA hPA hn1).mono ?_
          rintro e v6 ⟨A6, n6, c6, rfl, hk6, hO6, bb6⟩
          have ya3 := keepcell ya3 bb6
          have ya4 := keepcell ya4 bb6
          have ya5 := keepcell ya5 bb6
          have hPB := hPB.below bb6
          have B6 := BB.trans (bb6.mono BS)
          have S6 := B6.size
          have rr6 := (bb6.block r2 hr5).trans rr0
          have hr6 := heap_lt rr6
          have HR5 := Lib.hid hr5
          rcases hfa : firstKnot ⟨wA w ⟨up, at'⟩, hA h ⟨up, at'⟩, partA ⟨up, at'⟩ ps⟩ with _ | l
          · have HF := Lib.hid (show firstKnot ⟨wB w ⟨up, at'⟩, hB h ⟨up, at'⟩, partB ⟨up, at'⟩ ps⟩ = firstKnot ⟨w, h, ps⟩ by rw [HC.out]; show _ = (match firstKnot ⟨wA w ⟨up, at'⟩, hA h ⟨up, at'⟩, partA ⟨up, at'⟩ ps⟩ with | some k => some k | none => firstKnot ⟨wB w ⟨up, at'⟩, hB h ⟨up, at'⟩, partB ⟨up, at'⟩ ps⟩); rw [hfa])
            clear hO6
            obtain ⟨vx, hvx⟩ : ∃ v, Hid (v6.alloc (.cells #[.int .i64 (kw none), .int .i64 (kh none), .slice A6 n6 c6] 30) = v) := ⟨_, rfl⟩
            have bx : Below v6.heap.size v6 vx := by rw [← hvx.out]; exact (Below.refl _ _).alloc (Nat.le_refl _) _
            have xya3 := keepcell ya3 bx
            have xya4 := keepcell ya4 bx
            have xya5 := keepcell ya5 bx
            go_wp2_with (rw [hvx.out])
            have hPB7 := hPB.below bx
            have rr7 := (bx.block r2 hr6).trans rr6
            have B7 := B6.trans (bx.mono S6)
            have S7 := B7.size
            have hr7 := heap_lt rr7
            refine (ih _ _ _ _ _ (partB ⟨up, at'⟩ ps) _ hsB hPB7 hn2).mono ?_
            rintro e v8 ⟨A8, n8, c8, rfl, hk8, hO8, bb8⟩
            have B8 := B7.trans (bb8.mono S7)
            have rr8 := (bb8.block r2 hr7).trans rr7
            rw [HF.out] at hO8 ⊢
            have zz0 : v8.cell? ⟨r2, 0, none⟩ = some (.int .i64 0) := by rw [cell_of_row _ _ _ _ _ _ rr8]; rfl
            have zf0 : v8.frozen? ⟨r2, 0, none⟩ = false := frozen_of_row _ _ _ _ _ rr8
            have zz1 : v8.cell? ⟨r2, 1, none⟩ = some (.int .i64 0) := by rw [cell_of_row _ _ _ _ _ _ rr8]; rfl
            have zf1 : v8.frozen? ⟨r2, 1, none⟩ = false := frozen_of_row _ _ _ _ _ rr8
            have zz2 : v8.cell? ⟨r2, 2, none⟩ = some (.slice none 0 0) := by rw [cell_of_row _ _ _ _ _ _ rr8]; rfl
            have zf2 : v8.frozen? ⟨r2, 2, none⟩ = false := frozen_of_row _ _ _ _ _ rr8
            have HO8 := Lib.hid hO8
            have HB8 := Lib.hid B8
            have HR7 := Lib.hid (And.intro hr7 S7)
            clear hO8 B8 hr7 S7 hfa
            go_wp2
            refine bodyPost_ret (v := .tuple #[.agg #[.int .i64 (kw (firstKnot ⟨w, h, ps⟩)), .int .i64 (kh (firstKnot ⟨w, h, ps⟩)), .slice A8 n8 c8], .bool (firstKnot ⟨w, h, ps⟩).isSome]) (by simp [results, Try.results46, go_sem, World.cell?_setCell_same', World.cell?_setCell_other, zz0, zz1, zz2]) rfl ⟨A8, n8, c8, rfl, hk8, ?_, below_set (below_set (below_set HB8.out hr2W _) hr2W _) hr2W _⟩
            exact (own_set (own_set (own_set HO8.out (.inl HR7.out.1) _ _) (.inl HR7.out.1) _ _) (.inl HR7.out.1) _ _).mono HR7.out.2 (by rw [set_size, set_size, set_size]; exact Nat.le_refl _)
          · have HF := Lib.hid (show some l = firstKnot ⟨w, h, ps⟩ by rw [HC.out]; show _ = (match firstKnot ⟨wA w ⟨up, at'⟩, hA h ⟨up, at'⟩, partA ⟨up, at'⟩ ps⟩ with | some k => some k | none => firstKnot ⟨wB w ⟨up, at'⟩, hB h ⟨up, at'⟩, partB ⟨up, at'⟩ ps⟩); rw [hfa])
            rw [hfa] at hO6
            clear hPB
            obtain ⟨lw, lh, lps⟩ := l
            have HO6 : Own v6 v5.heap.size v6.heap.size A6 n6 5 lps patchC := hO6
            clear hO6
            have zz0 : v6.cell? ⟨r2, 0, none⟩ = some (.int .i64 0) := by rw [cell_of_row _ _ _ _ _ _ rr6]; rfl
            have zf0 : v6.frozen? ⟨r2, 0, none⟩ = false := frozen_of_row _ _ _ _ _ rr6
            have zz1 : v6.cell? ⟨r2, 1, none⟩ = some (.int .i64 0) := by rw [cell_of_row _ _ _ _ _ _ rr6]; rfl
            have zf1 : v6.frozen? ⟨r2, 1, none⟩ = false := frozen_of_row _ _ _ _ _ rr6
            have zz2 : v6.cell? ⟨r2, 2, none⟩ = some (.slice none 0 0) := by rw [cell_of_row _ _ _ _ _ _ rr6]; rfl
            have zf2 : v6.frozen? ⟨r2, 2, none⟩ = false := frozen_of_row _ _ _ _ _ rr6
            obtain ⟨vx, hvx⟩ : ∃ v, Hid (v6.alloc (.cells #[.int .i64 (kw (some ⟨lw, lh, lps⟩)), .int .i64 (kh (some ⟨lw, lh, lps⟩)), .slice A6 n6 c6] 30) = v) := ⟨_, rfl⟩
            have bx : Below v6.heap.size v6 vx := by rw [← hvx.out]; exact (Below.refl _ _).alloc (Nat.le_refl _) _
            have bxc0 : vx.cell? ⟨v6.heap.size, 0, none⟩ = some (.int .i64 (kw (some ⟨lw, lh, lps⟩))) := by rw [← hvx.out, cell_of_row _ _ _ _ _ _ (heap_alloc_new v6 _)]; rfl
            have bxc1 : vx.cell? ⟨v6.heap.size, 1, none⟩ = some (.int .i64 (kh (some ⟨lw, lh, lps⟩))) := by rw [← hvx.out, cell_of_row _ _ _ _ _ _ (heap_alloc_new v6 _)]; rfl
            have bxc2 : vx.cell? ⟨v6.heap.size, 2, none⟩ = some (.slice A6 n6 c6) := by rw [← hvx.out, cell_of_row _ _ _ _ _ _ (heap_alloc_new v6 _)]; rfl
            have BX := B6.trans (bx.mono S6)
            have OX := HO6.below bx
            have rrx := (bx.block r2 hr6).trans rr6
            have xz0 : vx.cell? ⟨r2, 0, none⟩ = some (.int .i64 0) := by rw [cell_of_row _ _ _ _ _ _ rrx]; rfl
            have xf0 : vx.frozen? ⟨r2, 0, none⟩ = false := frozen_of_row _ _ _ _ _ rrx
            have xz1 : vx.cell? ⟨r2, 1, none⟩ = some (.int .i64 0) := by rw [cell_of_row _ _ _ _ _ _ rrx]; rfl
            have xf1 : vx.frozen? ⟨r2, 1, none⟩ = false := frozen_of_row _ _ _ _ _ rrx
            have xz2 : vx.cell? ⟨r2, 2, none⟩ = some (.slice none 0 0) := by rw [cell_of_row _ _ _ _ _ _ rrx]; rfl
            have xf2 : vx.frozen? ⟨r2, 2, none⟩ = false := frozen_of_row _ _ _ _ _ rrx
            have HOX := Lib.hid OX
            have HBX := Lib.hid BX
            have HSX := Lib.hid (And.intro BS bx.size)
            clear OX BX BS bx HO6
            go_wp2_with (rw [hvx.out])
            rw [← HF.out]
            obtain ⟨hsx1, hsx2⟩ := HSX.out
            refine bodyPost_ret (v := .tuple #[.agg #[.int .i64 (kw (some ⟨lw, lh, lps⟩)), .int .i64 (kh (some ⟨lw, lh, lps⟩)), .slice A6 n6 c6], .bool true]) (by simp [results, Try.results46, go_sem, World.cell?_setCell_same', World.cell?_setCell_other, xz0, xz1, xz2]) rfl ⟨A6, n6, c6, rfl, hk6, ?_, below_set (below_set (below_set HBX.out hr2W _) hr2W _) hr2W _⟩
            exact (own_set (own_set (own_set HOX.out (.inl HR5.out) _ _) (.inl HR5.out) _ _) (.inl HR5.out) _ _).mono hsx1 (by rw [set_size, set_size, set_size]; exact hsx2)
      · go_simp
        obtain ⟨ja, hja⟩ : ∃ j, Hid (v1.heap.size = j) := ⟨_, rfl⟩
        obtain ⟨v2, hv2⟩ : ∃ v, Hid (v1.alloc (.cells #[.int .i64 0, .int .i64 0, .slice none 0 0, .int .i64 0, .int .i64 0, .slice none 0 0] 98) = v) := ⟨_, rfl⟩
        have ra : v2.heap[ja]? = some (.cells #[.int .i64 0, .int .i64 0, .slice none 0 0, .int .i64 0, .int .i64 0, .slice none 0 0] 98 (0, 0)) := by rw [← hv2.out, ← hja.out]; exact heap_alloc_new v1 _
        have bb2 : Below v1.heap.size v1 v2 := by rw [← hv2.out]; exact (Below.refl _ _).alloc (Nat.le_refl _) _
        have za : v1.heap.size = ja ∧ v2.heap.size = ja + 1 := by rw [← hv2.out, ← hja.out]; simp
        have Za := Lib.hid za
        rw [hv2.out, hja.out]
        refine hK.out _ _ (keep5 hHeld bb2) (fun hHeld => ?_)
        clear hK K; (try simp only [Act.put, List.setIfInBounds_toArray, List.set_cons_zero, List.set_cons_succ])
        have R2 := R1.below bb2
        have B2 := B1.trans (bb2.mono S1)
        have S2 := B2.size
        have rr0 := (bb2.block r2 (by have := Q1.out; omega)).trans rr0
        have rd := (bb2.block jd (by have := Zd.out; have := Q1.out; omega)).trans rd
        have Q2 : Hid (v1.heap.size ≤ v2.heap.size) := bb2.size
        clear bb2 za
        refine wpAnyH_ready (rs := [4]) (by kernel_rfl) (by simp) ?_
        refine AllReadyH.cons (o := _) rfl (fun K hK => ?_) AllReadyH.nil
        · go_simp
          refine (divI_any w h A n c ps up at' _ R2 hN HK.out).mono ?_
          rintro e v3 ⟨A1, n1, c1, A2, n2, c2, N1, m1, d1, N2, m2, d2, rfl, hPA, hPB, _, _, _, bb3⟩
          refine hK.out _ _ (keep5 hHeld bb3) (fun hHeld => ?_)
          clear hK K; (try simp only [Act.put, List.setIfInBounds_toArray, List.set_cons_zero, List.set_cons_succ])
          have R3 := R2.below bb3
          have B3 := B2.trans (bb3.mono S2)
          have S3 := B3.size
          have rr0 := (bb3.block r2 (by have := Q1.out; have := Q2.out; omega)).trans rr0
          have ra := (bb3.block ja (by have := Za.out; have := Q1.out; have := Q2.out; omega)).trans ra
          have rd := (bb3.block jd (by have := Zd.out; have := Q1.out; have := Q2.out; omega)).trans rd
          have Q3 : Hid (v2.heap.size ≤ v3.heap.size) := bb3.size
          clear bb3
          (refine take_yes (i := 5) (d := some 33) (v := ?_) rfl rfl (by kernel_rfl) (by kernel_rfl) (by kernel_rfl) (by rfl) (fun _ _ _ h => h) ?_ (by assumption) ?_; rotate_left; focus ((intro w' hSw; (try dsimp only at hSw); go_simp) <;> with_reducible rfl)); (try simp only [Act.put, List.setIfInBounds_toArray, List.set_cons_zero, List.set_cons_succ])
          (refine take_yes (i := 6) (d := some 39) (v := ?_) rfl rfl (by kernel_rfl) (by kernel_rfl) (by kernel_rfl) (by rfl) (fun _ _ _ h => h) ?_ (by assumption) ?_; rotate_left; focus ((intro w' hSw; (try dsimp only at hSw); go_simp) <;> with_reducible rfl)); (try simp only [Act.put, List.setIfInBounds_toArray, List.set_cons_zero, List.set_cons_succ])
          (refine take_yes (i := 7) (d := some 40) (v := ?_) rfl rfl (by kernel_rfl) (by kernel_rfl) (by kernel_rfl) (by rfl) (fun _ _ _ h => h) ?_ (by assumption) ?_; rotate_left; focus ((intro w' hSw; (try dsimp only at hSw); go_simp) <;> with_reducible rfl)); (try simp only [Act.put, List.setIfInBounds_toArray, List.set_cons_zero, List.set_cons_succ])
          have N : Hid (¬ jb = ja ∧ ¬ jb = jd ∧ ¬ b = ja ∧ ¬ b = jd ∧ ¬ ja = jd ∧ W.heap.size ≤ ja ∧ W.heap.size ≤ jd ∧ ¬ r2 = ja ∧ ¬ r2 = jd) := by have h1 := Za.out; have h2 := Zd.out; have h3 := Q1.out; have h4 := Q2.out; have h5 := Q3.out; refine ⟨?_, ?_, ?_, ?_, ?_, ?_, ?_, ?_, ?_⟩ <;> omega
          have NA : Hid ((ja < v2.heap.size ∨ v3.heap.size ≤ ja) ∧ (jd < v2.heap.size ∨ v3.heap.size ≤ jd)) := by have h1 := Za.out; have h2 := Zd.out; have h3 := Q1.out; have h4 := Q2.out; have h5 := Q3.out; refine ⟨?_, ?_⟩ <;> omega
          obtain ⟨n1_, n2_, n3_, n4_, n5_, n6_, n7_, n8_, n9_⟩ := N.out
          obtain ⟨na_, nd_⟩ := NA.out
          have hn1_ := hPA.len
          have hn2_ := hPB.len
          have HLA := Lib.hid hn1_
          have HLB := Lib.hid hn2_
          clear hn1_ hn2_
          have sa0 : v3.cell? ⟨ja, 0, none⟩ = some (.int .i64 0) := by rw [cell_of_row _ _ _ _ _ _ ra]; rfl
          have ga0 : v3.frozen? ⟨ja, 0, none⟩ = false := frozen_of_row _ _ _ _ _ ra
          have sa1 : v3.cell? ⟨ja, 1, none⟩ = some (.int .i64 0) := by rw [cell_of_row _ _ _ _ _ _ ra]; rfl
          have ga1 : v3.frozen? ⟨ja, 1, none⟩ = false := frozen_of_row _ _ _ _ _ ra
          have sa2 : v3.cell? ⟨ja, 2, none⟩ = some (.slice none 0 0) := by rw [cell_of_row _ _ _ _ _ _ ra]; rfl
          have ga2 : v3.frozen? ⟨ja, 2, none⟩ = false := frozen_of_row _ _ _ _ _ ra
          have sa3 : v3.cell? ⟨ja, 3, none⟩ = some (.int .i64 0) := by rw [cell_of_row _ _ _ _ _ _ ra]; rfl
          have ga3 : v3.frozen? ⟨ja, 3, none⟩ = false := frozen_of_row _ _ _ _ _ ra
          have sa4 : v3.cell? ⟨ja, 4, none⟩ = some (.int .i64 0) := by rw [cell_of_row _ _ _ _ _ _ ra]; rfl
          have ga4 : v3.frozen? ⟨ja, 4, none⟩ = false := frozen_of_row _ _ _ _ _ ra
          have sa5 : v3.cell? ⟨ja, 5, none⟩ = some (.slice none 0 0) := by rw [cell_of_row _ _ _ _ _ _ ra]; rfl
          have ga5 : v3.frozen? ⟨ja, 5, none⟩ = false := frozen_of_row _ _ _ _ _ ra
          obtain ⟨v4, hv4⟩ : ∃ v, Hid (((((((v3.setCell ⟨ja, 0, none⟩ (.int .i64 (wA w ⟨up, at'⟩))).setCell ⟨ja, 1, none⟩ (.int .i64 (hA h ⟨up, at'⟩))).setCell ⟨ja, 2, none⟩ (.slice A1 n1 c1)).setCell ⟨ja, 3, none⟩ (.int .i64 (wB w ⟨up, at'⟩))).setCell ⟨ja, 4, none⟩ (.int .i64 (hB h ⟨up, at'⟩))).setCell ⟨ja, 5, none⟩ (.slice A2 n2 c2)) = v) := ⟨_, rfl⟩
          refine wpAnyH_ready (rs := [10]) (by kernel_rfl) (by simp) ?_; refine AllReadyH.cons (o := _) rfl (fun K hK => ?_) AllReadyH.nil; go_simp
          rw [hv4.out]
          have ta := row_set (o := 5) (.slice A2 n2 c2) (row_set (o := 4) (.int .i64 (hB h ⟨up, at'⟩)) (row_set (o := 3) (.int .i64 (wB w ⟨up, at'⟩)) (row_set (o := 2) (.slice A1 n1 c1) (row_set (o := 1) (.int .i64 (hA h ⟨up, at'⟩)) (row_set (o := 0) (.int .i64 (wA w ⟨up, at'⟩)) (ra))))))
          rw [hv4.out] at ta
          have hfara : ∀ g, g ≠ ja → v4.heap[g]? = v3.heap[g]? := fun g hg => by rw [← hv4.out, row_far _ hg, row_far _ hg, row_far _ hg, row_far _ hg, row_far _ hg, row_far _ hg]
          refine hK.out _ _ ⟨cell_blk hHeld.1 (hfara jb n1_), cell_blk hHeld.2.1 (hfara jb n1_), cell_blk hHeld.2.2.1 (hfara jb n1_), cell_blk hHeld.2.2.2.1 (hfara b n3_), cell_blk hHeld.2.2.2.2 (hfara b n3_)⟩ (fun hHeld => ?_)
          clear hK K; (try simp only [Act.put, List.setIfInBounds_toArray, List.set_cons_zero, List.set_cons_succ])
          clear sa0 ga0 sa1 ga1 sa2 ga2 sa3 ga3 sa4 ga4 sa5 ga5
          have hPA := own_set (own_set (own_set (own_set (own_set (own_set (hPA) na_ 0 (.int .i64 (wA w ⟨up, at'⟩))) na_ 1 (.int .i64 (hA h ⟨up, at'⟩))) na_ 2 (.slice A1 n1 c1)) na_ 3 (.int .i64 (wB w ⟨up, at'⟩))) na_ 4 (.int .i64 (hB h ⟨up, at'⟩))) na_ 5 (.slice A2 n2 c2)
          have hPB := own_set (own_set (own_set (own_set (own_set (own_set (hPB) na_ 0 (.int .i64 (wA w ⟨up, at'⟩))) na_ 1 (.int .i64 (hA h ⟨up, at'⟩))) na_ 2 (.slice A1 n1 c1)) na_ 3 (.int .i64 (wB w ⟨up, at'⟩))) na_ 4 (.int .i64 (hB h ⟨up, at'⟩))) na_ 5 (.slice A2 n2 c2)
          rw [hv4.out] at hPA hPB
          have BB := below_set (below_set (below_set (below_set (below_set (below_set (B3) n6_ (o := 0) (.int .i64 (wA w ⟨up, at'⟩))) n6_ (o := 1) (.int .i64 (hA h ⟨up, at'⟩))) n6_ (o := 2) (.slice A1 n1 c1)) n6_ (o := 3) (.int .i64 (wB w ⟨up, at'⟩))) n6_ (o := 4) (.int .i64 (hB h ⟨up, at'⟩))) n6_ (o := 5) (.slice A2 n2 c2)
          rw [hv4.out] at BB
          have rr0 := (hfara r2 n8_).trans rr0
          have rd := (hfara jd (fun e => n5_ e.symm)).trans rd
          have sd0 : v4.cell? ⟨jd, 0, none⟩ = some (.slice none 0 0) := by rw [cell_of_row _ _ _ _ _ _ rd]; rfl
          have gd0 : v4.frozen? ⟨jd, 0, none⟩ = false := frozen_of_row _ _ _ _ _ rd
          have sd1 : v4.cell? ⟨jd, 1, none⟩ = some (.slice none 0 0) := by rw [cell_of_row _ _ _ _ _ _ rd]; rfl
          have gd1 : v4.frozen? ⟨jd, 1, none⟩ = false := frozen_of_row _ _ _ _ _ rd
          obtain ⟨v5, hv5⟩ : ∃ v, Hid (((v4.setCell ⟨jd, 0, none⟩ (.slice N1 m1 d1)).setCell ⟨jd, 1, none⟩ (.slice N2 m2 d2)) = v) := ⟨_, rfl⟩
          refine wpAnyH_ready (rs := [11]) (by kernel_rfl) (by simp) ?_; refine AllReadyH.cons (o := _) rfl (fun K hK => ?_) AllReadyH.nil; go_simp
          rw [hv5.out]
          have td := row_set (o := 1) (.slice N2 m2 d2) (row_set (o := 0) (.slice N1 m1 d1) (rd))
          rw [hv5.out] at td
          have hfard : ∀ g, g ≠ jd → v5.heap[g]? = v4.heap[g]? := fun g hg => by rw [← hv5.out, row_far _ hg, row_far _ hg]
          refine hK.out _ _ ⟨cell_blk hHeld.1 (hfard jb n2_), cell_blk hHeld.2.1 (hfard jb n2_), cell_blk hHeld.2.2.1 (hfard jb n2_), cell_blk hHeld.2.2.2.1 (hfard b n4_), cell_blk hHeld.2.2.2.2 (hfard b n4_)⟩ (fun hHeld => ?_)
          clear hK K; (try simp only [Act.put, List.setIfInBounds_toArray, List.set_cons_zero, List.set_cons_succ])
          clear sd0 gd0 sd1 gd1
          have hPA := own_set (own_set (hPA) nd_ 0 (.slice N1 m1 d1)) nd_ 1 (.slice N2 m2 d2)
          have hPB := own_set (own_set (hPB) nd_ 0 (.slice N1 m1 d1)) nd_ 1 (.slice N2 m2 d2)
          rw [hv5.out] at hPA hPB
          have BB := below_set (below_set (BB) n7_ (o := 0) (.slice N1 m1 d1)) n7_ (o := 1) (.slice N2 m2 d2)
          rw [hv5.out] at BB
          have rr0 := (hfard r2 n9_).trans rr0
          have ra := (hfard ja n5_).trans ta
          have rd := td
          refine wpAnyH_done (by kernel_rfl) ?_ _
          have ya0 : v5.cell? ⟨ja, 0, none⟩ = some (.int .i64 (wA w ⟨up, at'⟩)) := by rw [cell_of_row _ _ _ _ _ _ ra]; rfl
          have ya1 : v5.cell? ⟨ja, 1, none⟩ = some (.int .i64 (hA h ⟨up, at'⟩)) := by rw [cell_of_row _ _ _ _ _ _ ra]; rfl
          have ya2 : v5.cell? ⟨ja, 2, none⟩ = some (.slice A1 n1 c1) := by rw [cell_of_row _ _ _ _ _ _ ra]; rfl
          have ya3 : v5.cell? ⟨ja, 3, none⟩ = some (.int .i64 (wB w ⟨up, at'⟩)) := by rw [cell_of_row _ _ _ _ _ _ ra]; rfl
          have ya4 : v5.cell? ⟨ja, 4, none⟩ = some (.int .i64 (hB h ⟨up, at'⟩)) := by rw [cell_of_row _ _ _ _ _ _ ra]; rfl
          have ya5 : v5.cell? ⟨ja, 5, none⟩ = some (.slice A2 n2 c2) := by rw [cell_of_row _ _ _ _ _ _ ra]; rfl
          have hn1 : n1 ≤ 1048576 := by have h1 := HLA.out; have h2 := pA_len ⟨up, at'⟩ ps; have h3 := HLEN.out; omega
          have hn2 : n2 ≤ 1048576 := by have h1 := HLB.out; have h2 := pB_len ⟨up, at'⟩ ps; have h3 := HLEN.out; omega
          have hPA := hPA.rd
          have hPB := hPB.rd
          have BS := BB.size
          have hr5 := heap_lt rr0
          clear ra rd ta td hfara hfard hHeld n1_ n2_ n3_ n4_ n5_ n6_ n7_ n8_ n9_ na_ nd_
          go_wp2_with fail
          refine (ih _ _ _ _ _ (partA ⟨up, at'⟩ ps) _ hsA hPA hn1).mono ?_
          rintro e v6 ⟨A6, n6, c6, rfl, hk6, hO6, bb6⟩
          have ya3 := keepcell ya3 bb6
          have ya4 := keepcell ya4 bb6
          have ya5 := keepcell ya5 bb6
          have hPB := hPB.below bb6
          have B6 := BB.trans (bb6.mono BS)
          have S6 := B6.size
          have rr6 := (bb6.block r2 hr5).trans rr0
          have hr6 := heap_lt rr6
          have HR5 := Lib.hid hr5
          rcases hfa : firstKnot ⟨wA w ⟨up, at'⟩, hA h ⟨up, at'⟩, partA ⟨up, at'⟩ ps⟩ with _ | l
          · have HF := Lib.hid (show firstKnot ⟨wB w ⟨up, at'⟩, hB h ⟨up, at'⟩, partB ⟨up, at'⟩ ps⟩ = firstKnot ⟨w, h, ps⟩ by rw [HC.out]; show _ = (match firstKnot ⟨wA w ⟨up, at'⟩, hA h ⟨up, at'⟩, partA ⟨up, at'⟩ ps⟩ with | some k => some k | none => firstKnot ⟨wB w ⟨up, at'⟩, hB h ⟨up, at'⟩, partB ⟨up, at'⟩ ps⟩); rw [hfa])
            clear hO6
            obtain ⟨vx, hvx⟩ : ∃ v, Hid (v6.alloc (.cells #[.int .i64 (kw none), .int .i64 (kh none), .slice A6 n6 c6] 30) = v) := ⟨_, rfl⟩
            have bx : Below v6.heap.size v6 vx := by rw [← hvx.out]; exact (Below.refl _ _).alloc (Nat.le_refl _) _
            have xya3 := keepcell ya3 bx
            have xya4 := keepcell ya4 bx
            have xya5 := keepcell ya5 bx
            go_wp2_with (rw [hvx.out])
            have hPB7 := hPB.below bx
            have rr7 := (bx.block r2 hr6).trans rr6
            have B7 := B6.trans (bx.mono S6)
            have S7 := B7.size
            have hr7 := heap_lt rr7
            refine (ih _ _ _ _ _ (partB ⟨up, at'⟩ ps) _ hsB hPB7 hn2).mono ?_
            rintro e v8 ⟨A8, n8, c8, rfl, hk8, hO8, bb8⟩
            have B8 := B7.trans (bb8.mono S7)
            have rr8 := (bb8.block r2 hr7).trans rr7
            rw [HF.out] at hO8 ⊢
            have zz0 : v8.cell? ⟨r2, 0, none⟩ = some (.int .i64 0) := by rw [cell_of_row _ _ _ _ _ _ rr8]; rfl
            have zf0 : v8.frozen? ⟨r2, 0, none⟩ = false := frozen_of_row _ _ _ _ _ rr8
            have zz1 : v8.cell? ⟨r2, 1, none⟩ = some (.int .i64 0) := by rw [cell_of_row _ _ _ _ _ _ rr8]; rfl
            have zf1 : v8.frozen? ⟨r2, 1, none⟩ = false := frozen_of_row _ _ _ _ _ rr8
            have zz2 : v8.cell? ⟨r2, 2, none⟩ = some (.slice none 0 0) := by rw [cell_of_row _ _ _ _ _ _ rr8]; rfl
            have zf2 : v8.frozen? ⟨r2, 2, none⟩ = false := frozen_of_row _ _ _ _ _ rr8
            have HO8 := Lib.hid hO8
            have HB8 := Lib.hid B8
            have HR7 := Lib.hid (And.intro hr7 S7)
            clear hO8 B8 hr7 S7 hfa
            go_wp2
            refine bodyPost_ret (v := .tuple #[.agg #[.int .i64 (kw (firstKnot ⟨w, h, ps⟩)), .int .i64 (kh (firstKnot ⟨w, h, ps⟩)), .slice A8 n8 c8], .bool (firstKnot ⟨w, h, ps⟩).isSome]) (by simp [results, Try.results46, go_sem, World.cell?_setCell_same', World.cell?_setCell_other, zz0, zz1, zz2]) rfl ⟨A8, n8, c8, rfl, hk8, ?_, below_set (below_set (below_set HB8.out hr2W _) hr2W _) hr2W _⟩
            exact (own_set (own_set (own_set HO8.out (.inl HR7.out.1) _ _) (.inl HR7.out.1) _ _) (.inl HR7.out.1) _ _).mono HR7.out.2 (by rw [set_size, set_size, set_size]; exact Nat.le_refl _)
          · have HF := Lib.hid (show some l = firstKnot ⟨w, h, ps⟩ by rw [HC.out]; show _ = (match firstKnot ⟨wA w ⟨up, at'⟩, hA h ⟨up, at'⟩, partA ⟨up, at'⟩ ps⟩ with | some k => some k | none => firstKnot ⟨wB w ⟨up, at'⟩, hB h ⟨up, at'⟩, partB ⟨up, at'⟩ ps⟩); rw [hfa])
            rw [hfa] at hO6
            clear hPB
            obtain ⟨lw, lh, lps⟩ := l
            have HO6 : Own v6 v5.heap.size v6.heap.size A6 n6 5 lps patchC := hO6
            clear hO6
            have zz0 : v6.cell? ⟨r2, 0, none⟩ = some (.int .i64 0) := by rw [cell_of_row _ _ _ _ _ _ rr6]; rfl
            have zf0 : v6.frozen? ⟨r2, 0, none⟩ = false := frozen_of_row _ _ _ _ _ rr6
            have zz1 : v6.cell? ⟨r2, 1, none⟩ = some (.int .i64 0) := by rw [cell_of_row _ _ _ _ _ _ rr6]; rfl
            have zf1 : v6.frozen? ⟨r2, 1, none⟩ = false := frozen_of_row _ _ _ _ _ rr6
            have zz2 : v6.cell? ⟨r2, 2, none⟩ = some (.slice none 0 0) := by rw [cell_of_row _ _ _ _ _ _ rr6]; rfl
            have zf2 : v6.frozen? ⟨r2, 2, none⟩ = false := frozen_of_row _ _ _ _ _ rr6
            obtain ⟨vx, hvx⟩ : ∃ v, Hid (v6.alloc (.cells #[.int .i64 (kw (some ⟨lw, lh, lps⟩)), .int .i64 (kh (some ⟨lw, lh, lps⟩)), .slice A6 n6 c6] 30) = v) := ⟨_, rfl⟩
            have bx : Below v6.heap.size v6 vx := by rw [← hvx.out]; exact (Below.refl _ _).alloc (Nat.le_refl _) _
            have bxc0 : vx.cell? ⟨v6.heap.size, 0, none⟩ = some (.int .i64 (kw (some ⟨lw, lh, lps⟩))) := by rw [← hvx.out, cell_of_row _ _ _ _ _ _ (heap_alloc_new v6 _)]; rfl
            have bxc1 : vx.cell? ⟨v6.heap.size, 1, none⟩ = some (.int .i64 (kh (some ⟨lw, lh, lps⟩))) := by rw [← hvx.out, cell_of_row _ _ _ _ _ _ (heap_alloc_new v6 _)]; rfl
            have bxc2 : vx.cell? ⟨v6.heap.size, 2, none⟩ = some (.slice A6 n6 c6) := by rw [← hvx.out, cell_of_row _ _ _ _ _ _ (heap_alloc_new v6 _)]; rfl
            have BX := B6.trans (bx.mono S6)
            have OX := HO6.below bx
            have rrx := (bx.block r2 hr6).trans rr6
            have xz0 : vx.cell? ⟨r2, 0, none⟩ = some (.int .i64 0) := by rw [cell_of_row _ _ _ _ _ _ rrx]; rfl
            have xf0 : vx.frozen? ⟨r2, 0, none⟩ = false := frozen_of_row _ _ _ _ _ rrx
            have xz1 : vx.cell? ⟨r2, 1, none⟩ = some (.int .i64 0) := by rw [cell_of_row _ _ _ _ _ _ rrx]; rfl
            have xf1 : vx.frozen? ⟨r2, 1, none⟩ = false := frozen_of_row _ _ _ _ _ rrx
            have xz2 : vx.cell? ⟨r2, 2, none⟩ = some (.slice none 0 0) := by rw [cell_of_row _ _ _ _ _ _ rrx]; rfl
            have xf2 : vx.frozen? ⟨r2, 2, none⟩ = false := frozen_of_row _ _ _ _ _ rrx
            have HOX := Lib.hid OX
            have HBX := Lib.hid BX
            have HSX := Lib.hid (And.intro BS bx.size)
            clear OX BX BS bx HO6
            go_wp2_with (rw [hvx.out])
            rw [← HF.out]
            obtain ⟨hsx1, hsx2⟩ := HSX.out
            refine bodyPost_ret (v := .tuple #[.agg #[.int .i64 (kw (some ⟨lw, lh, lps⟩)), .int .i64 (kh (some ⟨lw, lh, lps⟩)), .slice A6 n6 c6], .bool true]) (by simp [results, Try.results46, go_sem, World.cell?_setCell_same', World.cell?_setCell_other, xz0, xz1, xz2]) rfl ⟨A6, n6, c6, rfl, hk6, ?_, below_set (below_set (below_set HBX.out hr2W _) hr2W _) hr2W _⟩
            exact (own_set (own_set (own_set HOX.out (.inl HR5.out) _ _) (.inl HR5.out) _ _) (.inl HR5.out) _ _).mono hsx1 (by rw [set_size, set_size, set_size]; exact hsx2)

end Go.Proofs.Ytmjdgplkcocgmaa
