/-
  Contract: impl.SplitLayout at a cut.
-/
import Derived.Test.YtmjdgplkcocgmaaKnoH
import Derived.Test.YtmjdgplkcocgmaaKnoM
import Derived.Test.YtmjdgplkcocgmaaKnoN
import Derived.Test.YtmjdgplkcocgmaaDrawO
set_option linter.unusedVariables false
set_option linter.unusedSimpArgs false
namespace Go.Proofs.Ytmjdgplkcocgmaa
open Go.RowKit

theorem set_far3 {w : World} {b o r : Nat} {v u0 u1 u2 : Value} (h : w.cell? ⟨b, o, none⟩ = some v) (hne : b ≠ r) : (((w.setCell ⟨r, 0, none⟩ u0).setCell ⟨r, 1, none⟩ u1).setCell ⟨r, 2, none⟩ u2).cell? ⟨b, o, none⟩ = some v :=
  cell_blk h ((row_far _ hne).trans ((row_far _ hne).trans (row_far _ hne)))

theorem own_far {α : Type} {w w' : World} {lo hi : Nat} {A : Option Addr} {n sz : Nat} {xs : List α} {cells : α → List Value} (h : Own w lo hi A n sz xs cells) (hf : ∀ b, lo ≤ b → b < w.heap.size → w'.heap[b]? = w.heap[b]?) : Own w' lo hi A n sz xs cells :=
  ⟨h.1, fun hn => by
    obtain ⟨g, T, e, h1, h2, hp⟩ := h.2 hn
    exact ⟨g, T, e, h1, h2, hp.block (hf g h1 hp.lt)⟩⟩

theorem sampleI_any (W : World) : Calls Try.prog 59 #[] W (SampleOut W) := by
  go_enter Try.func59, Try.ntmps59
  go_wp2
  have hz : W.heap.size + 1 = (W.alloc (.cells #[.int .i64 3, .int .i64 3, .slice (some ⟨W.heap.size + 1, 0, none⟩) 5 5] 30)).heap.size := by simp
  have hA := Acc.lit (W.alloc (.cells #[.int .i64 3, .int .i64 3, .slice (some ⟨W.heap.size + 1, 0, none⟩) 5 5] 30)) W.heap.size 44 5 sampleP patchC
    #[.int .i64 0, .int .i64 0, .int .i64 2, .int .i64 1, .int .i64 0, .int .i64 2, .int .i64 0, .int .i64 1, .int .i64 2, .int .i64 1, .int .i64 1, .int .i64 2, .int .i64 2, .int .i64 1, .int .i64 2, .int .i64 0, .int .i64 1, .int .i64 1, .int .i64 2, .int .i64 3, .int .i64 1, .int .i64 1, .int .i64 1, .int .i64 1, .int .i64 4] rfl (by rw [← hz]; omega) (by decide) rfl hz
  refine bodyPost_ret (v := .agg #[.int .i64 3, .int .i64 3, .slice (some ⟨W.heap.size + 1, 0, none⟩) 5 5]) (by simp [results, Try.results59, go_sem]) rfl ⟨W.heap.size + 1, rfl, hA, ?_⟩
  exact ((Below.refl _ _).alloc (Nat.le_refl _) _).alloc (by simp) _

theorem sample_knot : canSew ⟨3, 3, sampleP⟩ = false := by
  have hc : cutsOf 3 3 sampleP = [] := by
    rw [List.eq_nil_iff_forall_not_mem]
    intro c hm
    obtain ⟨_, h2, h3⟩ := cut_parts (mem_cuts.1 hm)
    obtain ⟨u, a⟩ := c
    have ha : a = 1 ∨ a = 2 := by unfold mostOfCut at h2; cases u <;> simp at h2 <;> omega
    have k1 := h3 ⟨0, 0, 2, 1, 0⟩ (by simp [sampleP])
    have k2 := h3 ⟨2, 0, 1, 2, 1⟩ (by simp [sampleP])
    have k3 := h3 ⟨1, 2, 2, 1, 2⟩ (by simp [sampleP])
    have k4 := h3 ⟨0, 1, 1, 2, 3⟩ (by simp [sampleP])
    revert k1 k2 k3 k4
    rcases ha with rfl | rfl <;> cases u <;> decide
  exact (sew_knot (l := ⟨3, 3, sampleP⟩) sample_ok (by decide) hc).symm

set_option maxRecDepth 100000 in
set_option maxHeartbeats 4000000 in
theorem splitI_any (w h : Int) (A : Option Addr) (n c : Nat) (ps : List Patch) (up : Bool) (at' : Int) (W : World) (hR : Rd W A n 5 ps patchC) (hN : n ≤ 1048576) (hK : isCut w h ps ⟨up, at'⟩ = true) :
    Calls Try.prog 56 #[.agg #[.int .i64 w, .int .i64 h, .slice A n c], .agg #[.bool up, .int .i64 at']] W fun e w' => ∃ A1 n1 c1 A2 n2 c2, e = .returned (.tuple #[.agg #[.int .i64 (wA w ⟨up, at'⟩), .int .i64 (hA h ⟨up, at'⟩), .slice A1 n1 c1], .agg #[.int .i64 (wB w ⟨up, at'⟩), .int .i64 (hB h ⟨up, at'⟩), .slice A2 n2 c2], .bool true]) ∧ Own w' W.heap.size w'.heap.size A1 n1 5 (partA ⟨up, at'⟩ ps) patchC ∧ Own w' W.heap.size w'.heap.size A2 n2 5 (partB ⟨up, at'⟩ ps) patchC ∧ Below W.heap.size W w' := by
  obtain ⟨wa, hwa⟩ : ∃ v, Hid (W.alloc (.cells #[.int .i64 w, .int .i64 h, .slice A n c] 30) = v) := ⟨_, rfl⟩
  obtain ⟨ja, hja⟩ : ∃ j, Hid (W.heap.size = j) := ⟨_, rfl⟩
  have qa : wa.heap[ja]? = some (.cells #[.int .i64 w, .int .i64 h, .slice A n c] 30 (0, 0)) := by rw [← hwa.out, ← hja.out]; exact heap_alloc_new W _
  have bwa : Below W.heap.size W wa := by rw [← hwa.out]; exact (Below.refl _ _).alloc (Nat.le_refl _) _
  obtain ⟨wb, hwb⟩ : ∃ v, Hid (wa.alloc (.cells #[.bool up, .int .i64 at'] 72) = v) := ⟨_, rfl⟩
  obtain ⟨jb, hjb⟩ : ∃ j, Hid (wa.heap.size = j) := ⟨_, rfl⟩
  have qb : wb.heap[jb]? = some (.cells #[.bool up, .int .i64 at'] 72 (0, 0)) := by rw [← hwb.out, ← hjb.out]; exact heap_alloc_new wa _
  have bwb : Below wa.heap.size wa wb := by rw [← hwb.out]; exact (Below.refl _ _).alloc (Nat.le_refl _) _
  obtain ⟨wc, hwc⟩ : ∃ v, Hid (wb.alloc (.cells #[.int .i64 0, .int .i64 0, .slice none 0 0] 30) = v) := ⟨_, rfl⟩
  obtain ⟨r4, hr4⟩ : ∃ j, Hid (wb.heap.size = j) := ⟨_, rfl⟩
  have q4 : wc.heap[r4]? = some (.cells #[.int .i64 0, .int .i64 0, .slice none 0 0] 30 (0, 0)) := by rw [← hwc.out, ← hr4.out]; exact heap_alloc_new wb _
  have bwc : Below wb.heap.size wb wc := by rw [← hwc.out]; exact (Below.refl _ _).alloc (Nat.le_refl _) _
  obtain ⟨wd, hwd⟩ : ∃ v, Hid (wc.alloc (.cells #[.int .i64 0, .int .i64 0, .slice none 0 0] 30) = v) := ⟨_, rfl⟩
  obtain ⟨r5, hr5⟩ : ∃ j, Hid (wc.heap.size = j) := ⟨_, rfl⟩
  have q5 : wd.heap[r5]? = some (.cells #[.int .i64 0, .int .i64 0, .slice none 0 0] 30 (0, 0)) := by rw [← hwd.out, ← hr5.out]; exact heap_alloc_new wc _
  have bwd : Below wc.heap.size wc wd := by rw [← hwd.out]; exact (Below.refl _ _).alloc (Nat.le_refl _) _
  have zb : wb.heap.size = jb + 1 := by rw [← hwb.out, ← hjb.out]; simp
  have zc : wc.heap.size = r4 + 1 := by rw [← hwc.out, ← hr4.out]; simp
  have zd : wd.heap.size = r5 + 1 := by rw [← hwd.out, ← hr5.out]; simp
  have za : wa.heap.size = ja + 1 := by rw [← hwa.out, ← hja.out]; simp
  have hs : ja = W.heap.size ∧ jb = ja + 1 ∧ r4 = jb + 1 ∧ r5 = r4 + 1 := by have := hja.out; have := hjb.out; have := hr4.out; have := hr5.out; omega
  have bB := bwa.trans (bwb.mono bwa.size)
  have bC := bB.trans (bwc.mono bB.size)
  have bD := bC.trans (bwd.mono bC.size)
  have qa1 := (bwd.block ja (by omega)).trans ((bwc.block ja (by omega)).trans ((bwb.block ja (by omega)).trans qa))
  have qb1 := (bwd.block jb (by omega)).trans ((bwc.block jb (by omega)).trans qb)
  have q41 := (bwd.block r4 (by omega)).trans q4
  have hRd := hR.below bD
  have la : ∀ i v, (#[Value.int .i64 w, .int .i64 h, .slice A n c])[i]? = some v → wd.cell? ⟨ja, i, none⟩ = some v := fun i v e => by rw [cell_of_row _ _ _ _ _ _ qa1]; exact e
  have lb : ∀ i v, (#[Value.bool up, .int .i64 at'])[i]? = some v → wd.cell? ⟨jb, i, none⟩ = some v := fun i v e => by rw [cell_of_row _ _ _ _ _ _ qb1]; exact e
  have a0 := la 0 (.int .i64 w) rfl
  have a1 := la 1 (.int .i64 h) rfl
  have a2 := la 2 (.slice A n c) rfl
  have k0 := lb 0 (.bool up) rfl
  have k1 := lb 1 (.int .i64 at') rfl
  have HBD := Lib.hid bD; have HQ4 := Lib.hid q41; have HQ5 := Lib.hid q5; have HS := Lib.hid hs
  clear la lb bwa bwb bwc bwd qa qb q4 q5 bB bC bD q41 hs qa1 qb1 hR za zb zc
  go_enter Try.func56, Try.ntmps56
  go_wp2_with (first | rw [hwa.out] | rw [hja.out] | rw [hwb.out] | rw [hjb.out] | rw [hwc.out] | rw [hr4.out] | rw [hwd.out] | rw [hr5.out])
  refine (isCutI_any w h A n c ps up at' _ hRd hN).mono ?_
  rw [hK]
  rintro e w1 ⟨rfl, hb1⟩
  replace a0 := keepcell a0 hb1
  replace a1 := keepcell a1 hb1
  replace a2 := keepcell a2 hb1
  replace k0 := keepcell k0 hb1
  replace k1 := keepcell k1 hb1
  have hR1 := hRd.below hb1; have hz1 := hb1.size; have HB1 := Lib.hid hb1; clear hRd hb1
  go_wp2_with fail
  refine (divI_any w h A n c ps up at' _ hR1 hN hK).mono ?_
  rintro e w2 ⟨A1, n1, c1, A2, n2, c2, N1, m1, d1, N2, m2, d2, rfl, hO1, hO2, _, _, _, hb2⟩
  have hz2 := hb2.size
  clear hR1 a0 a1 a2 k0 k1
  obtain ⟨u1, hu1⟩ : ∃ z, Hid (wA w ⟨up, at'⟩ = z) := ⟨_, rfl⟩
  obtain ⟨u2, hu2⟩ : ∃ z, Hid (hA h ⟨up, at'⟩ = z) := ⟨_, rfl⟩
  obtain ⟨u3, hu3⟩ : ∃ z, Hid (wB w ⟨up, at'⟩ = z) := ⟨_, rfl⟩
  obtain ⟨u4, hu4⟩ : ∃ z, Hid (hB h ⟨up, at'⟩ = z) := ⟨_, rfl⟩
  rw [hu1.out, hu2.out, hu3.out, hu4.out]
  go_wp2_with fail
  obtain ⟨w3, hw3⟩ : ∃ v, Hid (w2.alloc (.cells #[.int .i64 u1, .int .i64 u2, .slice A1 n1 c1, .int .i64 u3, .int .i64 u4, .slice A2 n2 c2] 98) = v) := ⟨_, rfl⟩
  obtain ⟨j7, hj7⟩ : ∃ j, Hid (w2.heap.size = j) := ⟨_, rfl⟩
  have q3 : w3.heap[j7]? = some (.cells #[.int .i64 u1, .int .i64 u2, .slice A1 n1 c1, .int .i64 u3, .int .i64 u4, .slice A2 n2 c2] 98 (0, 0)) := by rw [← hw3.out, ← hj7.out]; exact heap_alloc_new w2 _
  have b3 : Below w2.heap.size w2 w3 := by rw [← hw3.out]; exact (Below.refl _ _).alloc (Nat.le_refl _) _
  obtain ⟨w4, hw4⟩ : ∃ v, Hid (w3.alloc (.cells #[.slice N1 m1 d1, .slice N2 m2 d2] 99) = v) := ⟨_, rfl⟩
  have b4 : Below w3.heap.size w3 w4 := by rw [← hw4.out]; exact (Below.refl _ _).alloc (Nat.le_refl _) _
  rw [hw3.out, hw4.out, hj7.out]
  have q4 := (b4.block j7 (heap_lt q3)).trans q3
  have hbb : Below w2.heap.size w2 w4 := b3.trans (b4.mono b3.size)
  have hs := HS.out
  have hj7d : r5 < j7 := by have := hj7.out; have := hz1; have := hz2; omega
  have q24 := (HB1.out.block r4 (by omega)).trans HQ4.out; have q25 := (HB1.out.block r5 (by omega)).trans HQ5.out
  have q34 := (hb2.block r4 (by omega)).trans q24; have q35 := (hb2.block r5 (by omega)).trans q25
  have q44 := (hbb.block r4 (by omega)).trans q34; have q45 := (hbb.block r5 (by omega)).trans q35
  have HB4 := Lib.hid ((HBD.out.trans ((HB1.out.trans (hb2.mono hz1)).mono (by have := HBD.out.size; omega))).trans (hbb.mono (show W.heap.size ≤ w2.heap.size by omega)))
  have q4d : (World.drew w4).heap[j7]? = some (.cells #[.int .i64 u1, .int .i64 u2, .slice A1 n1 c1, .int .i64 u3, .int .i64 u4, .slice A2 n2 c2] 98 (0, 0)) := q4
  have q44d : (World.drew w4).heap[r4]? = some (.cells #[.int .i64 0, .int .i64 0, .slice none 0 0] 30 (0, 0)) := q44
  have q45d : (World.drew w4).heap[r5]? = some (.cells #[.int .i64 0, .int .i64 0, .slice none 0 0] 30 (0, 0)) := q45
  have HBd : Hid (Below W.heap.size W (World.drew w4)) := Lib.hid HB4.out.drew
  have hjr4 : j7 ≠ r4 := by omega
  have hjr5 : j7 ≠ r5 := by omega
  have hr45 : r4 ≠ r5 := by omega
  have hr54 : r5 ≠ r4 := by omega
  have hr4W : W.heap.size ≤ r4 := by omega
  have hr5W : W.heap.size ≤ r5 := by omega
  have hr4lt : r4 < r5 := by omega
  have hWw1 : W.heap.size ≤ w1.heap.size := by omega
  have HSZ0 : Hid (w2.heap.size ≤ (World.drew w4).heap.size) := Lib.hid hbb.size
  have HO1 := Lib.hid hO1; have HO2 := Lib.hid hO2; have HBBK := Lib.hid (show ∀ b, b < w2.heap.size → (World.drew w4).heap[b]? = w2.heap[b]? from fun b hb => hbb.block b hb)
  have hlo1 : r5 < w1.heap.size := by omega
  have hr4lt : r4 < r5 := by omega
  clear q3 b3 b4 hbb hs q24 q25 q34 q35 q44 q45 hO1 hO2 hb2 hz1 hz2 zd HB4
  have x0 : w4.cell? ⟨j7, 0, none⟩ = some (.int .i64 u1) := by rw [cell_of_row _ _ _ _ _ _ q4]; rfl
  have x1 : w4.cell? ⟨j7, 1, none⟩ = some (.int .i64 u2) := by rw [cell_of_row _ _ _ _ _ _ q4]; rfl
  have x2 : w4.cell? ⟨j7, 2, none⟩ = some (.slice A1 n1 c1) := by rw [cell_of_row _ _ _ _ _ _ q4]; rfl
  have x3 : w4.cell? ⟨j7, 3, none⟩ = some (.int .i64 u3) := by rw [cell_of_row _ _ _ _ _ _ q4]; rfl
  have x4 : w4.cell? ⟨j7, 4, none⟩ = some (.int .i64 u4) := by rw [cell_of_row _ _ _ _ _ _ q4]; rfl
  have x5 : w4.cell? ⟨j7, 5, none⟩ = some (.slice A2 n2 c2) := by rw [cell_of_row _ _ _ _ _ _ q4]; rfl
  refine wp_region_held_drew (S := fun v => v.cell? ⟨j7, 0, none⟩ = some (.int .i64 u1) ∧ v.cell? ⟨j7, 1, none⟩ = some (.int .i64 u2) ∧ v.cell? ⟨j7, 2, none⟩ = some (.slice A1 n1 c1) ∧ v.cell? ⟨j7, 3, none⟩ = some (.int .i64 u3) ∧ v.cell? ⟨j7, 4, none⟩ = some (.int .i64 u4) ∧ v.cell? ⟨j7, 5, none⟩ = some (.slice A2 n2 c2)) (by kernel_rfl) ⟨x0, x1, x2, x3, x4, x5⟩ (fun hHeld => ?_)
  clear x0 x1 x2 x3 x4 x5 q4
  obtain ⟨v0, hv0⟩ : ∃ v, Hid (World.drew w4 = v) := ⟨_, rfl⟩
  rw [hv0.out] at hHeld q4d q44d q45d HBd HBBK HSZ0 ⊢
  (refine take_yes (i := 0) (d := some 21) (v := ?_) rfl rfl (by kernel_rfl) (by kernel_rfl) (by kernel_rfl) (by rfl) (fun _ _ _ h => h) ?_ (by assumption) ?_; rotate_left; focus ((intro w' hSw; (try dsimp only at hSw); go_simp) <;> with_reducible rfl)); (try simp only [Act.put, List.setIfInBounds_toArray, List.set_cons_zero, List.set_cons_succ])
  (refine take_yes (i := 1) (d := some 22) (v := ?_) rfl rfl (by kernel_rfl) (by kernel_rfl) (by kernel_rfl) (by rfl) (fun _ _ _ h => h) ?_ (by assumption) ?_; rotate_left; focus ((intro w' hSw; (try dsimp only at hSw); go_simp) <;> with_reducible rfl)); (try simp only [Act.put, List.setIfInBounds_toArray, List.set_cons_zero, List.set_cons_succ])
  (refine take_yes (i := 2) (d := some 23) (v := ?_) rfl rfl (by kernel_rfl) (by kernel_rfl) (by kernel_rfl) (by rfl) (fun _ _ _ h => h) ?_ (by assumption) ?_; rotate_left; focus ((intro w' hSw; (try dsimp only at hSw); go_simp) <;> with_reducible rfl)); (try simp only [Act.put, List.setIfInBounds_toArray, List.set_cons_zero, List.set_cons_succ])
  (refine take_yes (i := 3) (d := some 24) (v := ?_) rfl rfl (by kernel_rfl) (by kernel_rfl) (by kernel_rfl) (by rfl) (fun _ _ _ h => h) ?_ (by assumption) ?_; rotate_left; focus ((intro w' hSw; (try dsimp only at hSw); go_simp) <;> with_reducible rfl)); (try simp only [Act.put, List.setIfInBounds_toArray, List.set_cons_zero, List.set_cons_succ])
  have y40 : v0.cell? ⟨r4, 0, none⟩ = some (.int .i64 0) := by rw [cell_of_row _ _ _ _ _ _ q44d]; rfl
  have f40 : v0.frozen? ⟨r4, 0, none⟩ = false := frozen_of_row _ _ _ _ _ q44d
  have y41 : v0.cell? ⟨r4, 1, none⟩ = some (.int .i64 0) := by rw [cell_of_row _ _ _ _ _ _ q44d]; rfl
  have f41 : v0.frozen? ⟨r4, 1, none⟩ = false := frozen_of_row _ _ _ _ _ q44d
  have y42 : v0.cell? ⟨r4, 2, none⟩ = some (.slice none 0 0) := by rw [cell_of_row _ _ _ _ _ _ q44d]; rfl
  have f42 : v0.frozen? ⟨r4, 2, none⟩ = false := frozen_of_row _ _ _ _ _ q44d
  obtain ⟨v1, hv1⟩ : ∃ v, Hid ((((v0.setCell ⟨r4, 0, none⟩ (.int .i64 u1)).setCell ⟨r4, 1, none⟩ (.int .i64 u2)).setCell ⟨r4, 2, none⟩ (.slice A1 n1 c1)) = v) := ⟨_, rfl⟩
  refine wpAnyH_ready (rs := [4]) (by kernel_rfl) (by simp) ?_; refine AllReadyH.cons (o := _) rfl (fun K hK => ?_) AllReadyH.nil; go_simp;
  rw [hv1.out]
  have hH1 : v1.cell? ⟨j7, 0, none⟩ = some (.int .i64 u1) ∧ v1.cell? ⟨j7, 1, none⟩ = some (.int .i64 u2) ∧ v1.cell? ⟨j7, 2, none⟩ = some (.slice A1 n1 c1) ∧ v1.cell? ⟨j7, 3, none⟩ = some (.int .i64 u3) ∧ v1.cell? ⟨j7, 4, none⟩ = some (.int .i64 u4) ∧ v1.cell? ⟨j7, 5, none⟩ = some (.slice A2 n2 c2) := by rw [← hv1.out]; exact ⟨set_far3 (hHeld.1) hjr4, set_far3 (hHeld.2.1) hjr4, set_far3 (hHeld.2.2.1) hjr4, set_far3 (hHeld.2.2.2.1) hjr4, set_far3 (hHeld.2.2.2.2.1) hjr4, set_far3 (hHeld.2.2.2.2.2) hjr4⟩
  have q41d : v1.heap[r4]? = some (.cells #[.int .i64 u1, .int .i64 u2, .slice A1 n1 c1] 30 (0, 0)) := by rw [← hv1.out]; exact row_set _ (row_set _ (row_set _ q44d))
  have q51d : v1.heap[r5]? = some (.cells #[.int .i64 0, .int .i64 0, .slice none 0 0] 30 (0, 0)) := by rw [← hv1.out, row_far _ hr54, row_far _ hr54, row_far _ hr54]; exact q45d
  have HB1d : Hid (Below W.heap.size W v1) := by rw [← hv1.out]; exact Lib.hid (below_set (below_set (below_set HBd.out hr4W _) hr4W _) hr4W _)
  clear hHeld y40 f40 y41 f41 y42 f42
  refine hK.out _ _ hH1 (fun hHeld => ?_)
  clear hH1
  clear hK K; (try simp only [Act.put, List.setIfInBounds_toArray, List.set_cons_zero, List.set_cons_succ])
  have y50 : v1.cell? ⟨r5, 0, none⟩ = some (.int .i64 0) := by rw [cell_of_row _ _ _ _ _ _ q51d]; rfl
  have f50 : v1.frozen? ⟨r5, 0, none⟩ = false := frozen_of_row _ _ _ _ _ q51d
  have y51 : v1.cell? ⟨r5, 1, none⟩ = some (.int .i64 0) := by rw [cell_of_row _ _ _ _ _ _ q51d]; rfl
  have f51 : v1.frozen? ⟨r5, 1, none⟩ = false := frozen_of_row _ _ _ _ _ q51d
  have y52 : v1.cell? ⟨r5, 2, none⟩ = some (.slice none 0 0) := by rw [cell_of_row _ _ _ _ _ _ q51d]; rfl
  have f52 : v1.frozen? ⟨r5, 2, none⟩ = false := frozen_of_row _ _ _ _ _ q51d
  obtain ⟨v2, hv2⟩ : ∃ v, Hid ((((v1.setCell ⟨r5, 0, none⟩ (.int .i64 u3)).setCell ⟨r5, 1, none⟩ (.int .i64 u4)).setCell ⟨r5, 2, none⟩ (.slice A2 n2 c2)) = v) := ⟨_, rfl⟩
  refine wpAnyH_ready (rs := [5]) (by kernel_rfl) (by simp) ?_; refine AllReadyH.cons (o := _) rfl (fun K hK => ?_) AllReadyH.nil; go_simp;
  rw [hv2.out]
  have hH2 : v2.cell? ⟨j7, 0, none⟩ = some (.int .i64 u1) ∧ v2.cell? ⟨j7, 1, none⟩ = some (.int .i64 u2) ∧ v2.cell? ⟨j7, 2, none⟩ = some (.slice A1 n1 c1) ∧ v2.cell? ⟨j7, 3, none⟩ = some (.int .i64 u3) ∧ v2.cell? ⟨j7, 4, none⟩ = some (.int .i64 u4) ∧ v2.cell? ⟨j7, 5, none⟩ = some (.slice A2 n2 c2) := by rw [← hv2.out]; exact ⟨set_far3 (hHeld.1) hjr5, set_far3 (hHeld.2.1) hjr5, set_far3 (hHeld.2.2.1) hjr5, set_far3 (hHeld.2.2.2.1) hjr5, set_far3 (hHeld.2.2.2.2.1) hjr5, set_far3 (hHeld.2.2.2.2.2) hjr5⟩
  have q42d : v2.heap[r4]? = some (.cells #[.int .i64 u1, .int .i64 u2, .slice A1 n1 c1] 30 (0, 0)) := by rw [← hv2.out, row_far _ hr45, row_far _ hr45, row_far _ hr45]; exact q41d
  have q52d : v2.heap[r5]? = some (.cells #[.int .i64 u3, .int .i64 u4, .slice A2 n2 c2] 30 (0, 0)) := by rw [← hv2.out]; exact row_set _ (row_set _ (row_set _ q51d))
  have HB2d : Hid (Below W.heap.size W v2) := by rw [← hv2.out]; exact Lib.hid (below_set (below_set (below_set HB1d.out hr5W _) hr5W _) hr5W _)
  clear hHeld y50 f50 y51 f51 y52 f52
  refine hK.out _ _ hH2 (fun hHeld => ?_)
  clear hH2
  clear hK K; (try simp only [Act.put, List.setIfInBounds_toArray, List.set_cons_zero, List.set_cons_succ])
  refine wpAnyH_ready (rs := [6]) (by kernel_rfl) (by simp) ?_; refine AllReadyH.cons (o := _) rfl (fun K hK => ?_) AllReadyH.nil; go_simp;
  refine hK.out _ _ hHeld (fun hHeld => ?_)
  clear hK K; (try simp only [Act.put, List.setIfInBounds_toArray, List.set_cons_zero, List.set_cons_succ])
  refine wpAnyH_done (by kernel_rfl) ?_ _
  have hfar : ∀ b, r5 < b → b < w2.heap.size → v2.heap[b]? = w2.heap[b]? := fun b h1 h2 => by
    have e1 : v2.heap[b]? = v1.heap[b]? := by rw [← hv2.out, row_far _ (by omega), row_far _ (by omega), row_far _ (by omega)]
    have e2 : v1.heap[b]? = v0.heap[b]? := by rw [← hv1.out, row_far _ (by omega), row_far _ (by omega), row_far _ (by omega)]
    exact e1.trans (e2.trans (HBBK.out b h2))
  have hsz2 : w2.heap.size ≤ v2.heap.size := by rw [← hv2.out, set_size, set_size, set_size, ← hv1.out, set_size, set_size, set_size]; exact HSZ0.out
  have HF1 := Lib.hid ((own_far (lo := w1.heap.size) (hi := w2.heap.size) HO1.out fun b h1 h2 => hfar b (by omega) h2).mono hWw1 hsz2)
  have HF2 := Lib.hid ((own_far (lo := w1.heap.size) (hi := w2.heap.size) HO2.out fun b h1 h2 => hfar b (by omega) h2).mono hWw1 hsz2)
  have z0 : v2.cell? ⟨r4, 0, none⟩ = some (.int .i64 u1) := by rw [cell_of_row _ _ _ _ _ _ q42d]; rfl
  have z1 : v2.cell? ⟨r4, 1, none⟩ = some (.int .i64 u2) := by rw [cell_of_row _ _ _ _ _ _ q42d]; rfl
  have z2 : v2.cell? ⟨r4, 2, none⟩ = some (.slice A1 n1 c1) := by rw [cell_of_row _ _ _ _ _ _ q42d]; rfl
  have z3 : v2.cell? ⟨r5, 0, none⟩ = some (.int .i64 u3) := by rw [cell_of_row _ _ _ _ _ _ q52d]; rfl
  have z4 : v2.cell? ⟨r5, 1, none⟩ = some (.int .i64 u4) := by rw [cell_of_row _ _ _ _ _ _ q52d]; rfl
  have z5 : v2.cell? ⟨r5, 2, none⟩ = some (.slice A2 n2 c2) := by rw [cell_of_row _ _ _ _ _ _ q52d]; rfl
  clear hHeld hfar q41d q51d q42d q52d
  go_wp2
  rw [hu1.out, hu2.out, hu3.out, hu4.out]
  exact bodyPost_ret (v := .tuple #[.agg #[.int .i64 u1, .int .i64 u2, .slice A1 n1 c1], .agg #[.int .i64 u3, .int .i64 u4, .slice A2 n2 c2], .bool true]) (by simp [results, Try.results56, go_sem, z0, z1, z2, z3, z4, z5]) rfl ⟨_, _, _, _, _, _, rfl, HF1.out, HF2.out, HB2d.out⟩

end Go.Proofs.Ytmjdgplkcocgmaa
