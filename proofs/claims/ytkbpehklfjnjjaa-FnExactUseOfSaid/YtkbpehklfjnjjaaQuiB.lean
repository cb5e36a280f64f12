/-
  Contracts over quilts: which quilts are valid by the reference.
-/
import Derived.Test.YtkbpehklfjnjjaaQuiA
import Derived.Test.YtkbpehklfjnjjaaReg
set_option linter.unusedVariables false
namespace Go.Proofs.Ytkbpehklfjnjjaa
open Go.RowKit

set_option maxRecDepth 100000 in
set_option maxHeartbeats 2000000 in
theorem quiltS_any (w h : Int) (A : Option Addr) (n c : Nat) (sp : List Spot) (B : Option Addr) (m d : Nat) (bs : List Blk) (W : World) (hR : Rd W A n 2 sp spotC) (hN : n ≤ 1048576) (hS : RdB W B m bs) (hM : m ≤ 1048576) (hr : ∀ r ∈ bs, r.2.length ≤ 1048576) :
    Calls Try.prog 33 #[.agg #[.int .i64 w, .int .i64 h, .slice A n c], .slice B m d] W fun e w' => e = .returned (.bool (quiltOk w h sp bs)) ∧ Below W.heap.size W w' := by
  have HLB := Lib.hid hS.len
  have HLEN := Lib.hid hR.len
  rcases h1 : within w 1 6 with _ | _
  · have HN := Lib.hid (qu_no1 (bs := bs) (isq_no1 (h := h) (sp := sp) (m := (bs.length : Int) - 1) h1).symm)
    go_enter Try.func33, Try.ntmps33
    go_wp2_with (first | (go_at_call 44; refine (l01In_any _ _ _ _).mono ?_; rintro e w' ⟨rfl, rfl⟩))
    go_ret
    exact ⟨ret_b HN.out, by (repeat (first | exact Below.refl _ _ | assumption | (refine Below.drew ?_) | (refine below_drewN ?_ _) | (refine Below.alloc ?_ (by first | exact Nat.le_refl _ | (simp; done) | (simp; omega) | omega) _) | (refine Below.setCell ?_ (by first | exact Nat.le_refl _ | (simp; done) | (simp; omega) | omega) _) | (refine Below.trans ?_ (Below.mono (by assumption) (by first | exact Nat.le_refl _ | (simp; done) | (simp; omega) | omega)))))⟩
  rcases h2 : within h 1 6 with _ | _
  · have HN := Lib.hid (qu_no1 (bs := bs) (isq_no2 (w := w) (sp := sp) (m := (bs.length : Int) - 1) h2).symm)
    go_enter Try.func33, Try.ntmps33
    go_wp2_with (first | (go_at_call 44; refine (l01In_any _ _ _ _).mono ?_; rintro e w' ⟨rfl, rfl⟩))
    go_ret
    exact ⟨ret_b HN.out, by (repeat (first | exact Below.refl _ _ | assumption | (refine Below.drew ?_) | (refine below_drewN ?_ _) | (refine Below.alloc ?_ (by first | exact Nat.le_refl _ | (simp; done) | (simp; omega) | omega) _) | (refine Below.setCell ?_ (by first | exact Nat.le_refl _ | (simp; done) | (simp; omega) | omega) _) | (refine Below.trans ?_ (Below.mono (by assumption) (by first | exact Nat.le_refl _ | (simp; done) | (simp; omega) | omega)))))⟩
  rcases h4 : within (m : Int) 1 6 with _ | _
  · have HN := Lib.hid (qu_no2 (w := w) (h := h) (sp := sp) (bs := bs) (by rw [HLB.out]; exact h4))
    go_enter Try.func33, Try.ntmps33
    go_wp2_with (first | (go_at_call 44; refine (l01In_any _ _ _ _).mono ?_; rintro e w' ⟨rfl, rfl⟩))
    go_ret
    exact ⟨ret_b HN.out, by (repeat (first | exact Below.refl _ _ | assumption | (refine Below.drew ?_) | (refine below_drewN ?_ _) | (refine Below.alloc ?_ (by first | exact Nat.le_refl _ | (simp; done) | (simp; omega) | omega) _) | (refine Below.setCell ?_ (by first | exact Nat.le_refl _ | (simp; done) | (simp; omega) | omega) _) | (refine Below.trans ?_ (Below.mono (by assumption) (by first | exact Nat.le_refl _ | (simp; done) | (simp; omega) | omega)))))⟩
  have hwb := within_iff.1 h1
  have hhb := within_iff.1 h2
  have hmb := within_iff.1 h4
  have hsq := side_bd hwb.1 hwb.2 hhb.1 hhb.2
  by_cases h3 : (n : Int) = w * h
  · have H1 := Lib.hid h1
    have H2 := Lib.hid h2
    have H4 := Lib.hid h4
    have H3 := Lib.hid (show (sp.length : Int) = w * h by rw [HLEN.out]; exact h3)
    have hsn : w * h = (n : Int) := h3.symm
    have hn36 : n ≤ 36 := by omega
    clear h3
    obtain ⟨jb, hjb⟩ : ∃ j, Hid (j = W.heap.size) := ⟨_, rfl⟩
    have e0 : (W.alloc (.cells #[.int .i64 w, .int .i64 h, .slice A n c] 58)).cell? ⟨jb, 2, none⟩ = some (.slice A n c) := by rw [hjb.out, cell_of_row _ _ _ _ _ _ (heap_alloc_new W _)]; rfl
    have hR1 : Rd (W.alloc (.cells #[.int .i64 w, .int .i64 h, .slice A n c] 58)) A n 2 sp spotC := hR.below ((Below.refl _ _).alloc (Nat.le_refl _) _)
    have hS1 : RdB (W.alloc (.cells #[.int .i64 w, .int .i64 h, .slice A n c] 58)) B m bs := hS.below ((Below.refl _ _).alloc (Nat.le_refl _) _)
    have hBW : Below W.heap.size W (W.alloc (.cells #[.int .i64 w, .int .i64 h, .slice A n c] 58)) := (Below.refl _ _).alloc (Nat.le_refl _) _
    have hsW : W.heap.size ≤ (W.alloc (.cells #[.int .i64 w, .int .i64 h, .slice A n c] 58)).heap.size := by simp
    obtain ⟨b0, off0, s0, A0, n0, c0, cs0, eB, hbW0, hr0, k0, _⟩ := hS1.at_ (k := 0) (by omega) (Below.refl _ _)
    have HS0 := Lib.hid (size0_at hr0)
    rw [Nat.zero_mul, Nat.add_zero] at k0
    subst eB
    clear hr0
    go_enter Try.func33, Try.ntmps33
    go_wp2_with (first | (go_at_call 44; refine (l01In_any _ _ _ _).mono ?_; rintro e w' ⟨rfl, rfl⟩))
    try rw [← hjb.out]
    generalize W.alloc (.cells #[.int .i64 w, .int .i64 h, .slice A n c] 58) = W1 at e0 k0 hbW0 hR1 hS1 hBW hsW ⊢
    have hmn : m ≤ 6 := by omega
    have hm0 : (0 : Int) < (m : Int) := by omega
    have hm1 : 0 < m := by omega
    clear hR hS h1 h2 h4 hsn
    go_loopw [5] (fun i wr => ∃ k : Nat, k ≤ m ∧ i = .int .i64 (k : Int) ∧ Hid ((bs.take k).all (blkOk (size0 bs)) = true) ∧ Below W1.heap.size W1 wr) (fun i _ => m - (intOf i).toNat)
    case atStart => exact ⟨0, Nat.zero_le _, rfl, by simp [Hid], Below.refl _ _⟩
    case round =>
      obtain ⟨k, hk, rfl, hall, hB⟩ := hrel
      have hz := hB.size
      have k1 := keepcell k0 hB
      by_cases hlt : k < m
      · obtain ⟨b, off, s, A', n', c', cs, eB, hbW, hrk, g0, g1, hnc, hrl, hRc⟩ := hS1.at_ hlt hB
        injection eB with eB
        injection eB with e1 e2 _
        subst e1
        subst e2
        have HX := Lib.hid hrk
        have hn' : n' ≤ 1048576 := by rw [← hrl]; exact hr _ (List.mem_of_getElem? hrk)
        have hkm : (k : Int) < (m : Int) := by omega
        clear hrk hrl
        go_wp2_with fail
        rcases hbk : blockOk s cs with _ | _
        · have HN := Lib.hid (qu_bad (w := w) (h := h) (sp := sp) HX.out (show blkOk (size0 bs) (s, cs) = false by unfold blkOk; simp only; rw [hbk]; rfl))
          refine wp_region_held_drew (S := fun v => v.cell? ⟨b0, off0 + k * 2, none⟩ = some (.int .i64 s) ∧ v.cell? ⟨b0, off0 + k * 2 + 1, none⟩ = some (.slice A' n' c') ∧ v.cell? ⟨b0, off0, none⟩ = some (.int .i64 s0)) (by kernel_rfl) ⟨keepd g0, keepd g1, keepd k1⟩ (fun hHeld => ?_)
          (refine take_yes (i := 0) (d := some 40) (v := ?_) rfl rfl (by kernel_rfl) (by kernel_rfl) (by kernel_rfl) (by rfl) (fun _ _ _ h => h) ?_ (by assumption) ?_; rotate_left; focus ((intro w' hSw; (try dsimp only at hSw); go_simp) <;> with_reducible rfl)); (try simp only [Act.put, List.setIfInBounds_toArray, List.set_cons_zero, List.set_cons_succ])
          (refine take_yes (i := 1) (d := some 41) (v := ?_) rfl rfl (by kernel_rfl) (by kernel_rfl) (by kernel_rfl) (by rfl) (fun _ _ _ h => h) ?_ (by assumption) ?_; rotate_left; focus ((intro w' hSw; (try dsimp only at hSw); go_simp) <;> with_reducible rfl)); (try simp only [Act.put, List.setIfInBounds_toArray, List.set_cons_zero, List.set_cons_succ])
          (refine take_yes (i := 2) (d := some 42) (v := ?_) rfl rfl (by kernel_rfl) (by kernel_rfl) (by kernel_rfl) (by rfl) (fun _ _ _ h => h) ?_ (by assumption) ?_; rotate_left; focus ((intro w' hSw; (try dsimp only at hSw); go_simp) <;> with_reducible rfl)); (try simp only [Act.put, List.setIfInBounds_toArray, List.set_cons_zero, List.set_cons_succ])
          (refine take_yes (i := 3) (d := some 43) (v := ?_) rfl rfl (by kernel_rfl) (by kernel_rfl) (by kernel_rfl) (by rfl) (fun _ _ _ h => h) ?_ (by assumption) ?_; rotate_left; focus ((intro w' hSw; (try dsimp only at hSw); go_simp) <;> with_reducible rfl)); (try simp only [Act.put, List.setIfInBounds_toArray, List.set_cons_zero, List.set_cons_succ])
          refine wpAnyH_ready (rs := [4]) (by kernel_rfl) (by simp) ?_; refine AllReadyH.cons (o := _) rfl (fun K hK => ?_) AllReadyH.nil; go_simp; (go_at_call 25; refine (blockOkS_any s A' n' c' cs _ (hRc.below ((Below.refl _ _).drew)) hn').mono ?_; rintro e w5 ⟨rfl, hb5⟩; rw [hbk])
          refine hK.out _ _ ⟨keepd1 g0 hb5, keepd1 g1 hb5, keepd1 k1 hb5⟩ (fun hHeld => ?_)
          clear hK K; (try simp only [Act.put, List.setIfInBounds_toArray, List.set_cons_zero, List.set_cons_succ])
          (refine take_yes (i := 5) (d := some 45) (v := ?_) rfl rfl (by kernel_rfl) (by kernel_rfl) (by kernel_rfl) (by rfl) (fun _ _ _ h => h) ?_ (by assumption) ?_; rotate_left; focus ((intro w' hSw; (try dsimp only at hSw); go_simp) <;> with_reducible rfl)); (try simp only [Act.put, List.setIfInBounds_toArray, List.set_cons_zero, List.set_cons_succ])
          (refine take_yes (i := 6) (d := some 46) (v := ?_) rfl rfl (by kernel_rfl) (by kernel_rfl) (by kernel_rfl) (by rfl) (fun _ _ _ h => h) ?_ (by assumption) ?_; rotate_left; focus ((intro w' hSw; (try dsimp only at hSw); go_simp) <;> with_reducible rfl)); (try simp only [Act.put, List.setIfInBounds_toArray, List.set_cons_zero, List.set_cons_succ])
          refine take_no (i := 7) (d := some 47) rfl rfl (by kernel_rfl) (by kernel_rfl) (by kernel_rfl) (by rfl) (fun _ _ _ h => h) (by assumption) ?_; (try simp only [Act.put, List.setIfInBounds_toArray, List.set_cons_zero, List.set_cons_succ])
          refine take_no (i := 8) (d := some 48) rfl rfl (by kernel_rfl) (by kernel_rfl) (by kernel_rfl) (by rfl) (fun _ _ _ h => h) (by assumption) ?_; (try simp only [Act.put, List.setIfInBounds_toArray, List.set_cons_zero, List.set_cons_succ])
          refine take_no (i := 9) (d := some 49) rfl rfl (by kernel_rfl) (by kernel_rfl) (by kernel_rfl) (by rfl) (fun _ _ _ h => h) (by assumption) ?_; (try simp only [Act.put, List.setIfInBounds_toArray, List.set_cons_zero, List.set_cons_succ])
          refine take_no (i := 10) (d := some 50) rfl rfl (by kernel_rfl) (by kernel_rfl) (by kernel_rfl) (by rfl) (fun _ _ _ h => h) (by assumption) ?_; (try simp only [Act.put, List.setIfInBounds_toArray, List.set_cons_zero, List.set_cons_succ])
          refine take_no (i := 11) (d := some 51) rfl rfl (by kernel_rfl) (by kernel_rfl) (by kernel_rfl) (by rfl) (fun _ _ _ h => h) (by assumption) ?_; (try simp only [Act.put, List.setIfInBounds_toArray, List.set_cons_zero, List.set_cons_succ])
          refine take_no (i := 12) (d := some 52) rfl rfl (by kernel_rfl) (by kernel_rfl) (by kernel_rfl) (by rfl) (fun _ _ _ h => h) (by assumption) ?_; (try simp only [Act.put, List.setIfInBounds_toArray, List.set_cons_zero, List.set_cons_succ])
          refine take_no (i := 13) (d := some 53) rfl rfl (by kernel_rfl) (by kernel_rfl) (by kernel_rfl) (by rfl) (fun _ _ _ h => h) (by assumption) ?_; (try simp only [Act.put, List.setIfInBounds_toArray, List.set_cons_zero, List.set_cons_succ])
          refine take_no (i := 14) (d := some 54) rfl rfl (by kernel_rfl) (by kernel_rfl) (by kernel_rfl) (by rfl) (fun _ _ _ h => h) (by assumption) ?_; (try simp only [Act.put, List.setIfInBounds_toArray, List.set_cons_zero, List.set_cons_succ])
          refine take_no (i := 15) (d := some 55) rfl rfl (by kernel_rfl) (by kernel_rfl) (by kernel_rfl) (by rfl) (fun _ _ _ h => h) (by assumption) ?_; (try simp only [Act.put, List.setIfInBounds_toArray, List.set_cons_zero, List.set_cons_succ])
          refine take_no (i := 16) (d := some 56) rfl rfl (by kernel_rfl) (by kernel_rfl) (by kernel_rfl) (by rfl) (fun _ _ _ h => h) (by assumption) ?_; (try simp only [Act.put, List.setIfInBounds_toArray, List.set_cons_zero, List.set_cons_succ])
          (refine take_yes (i := 17) (d := some 57) (v := ?_) rfl rfl (by kernel_rfl) (by kernel_rfl) (by kernel_rfl) (by rfl) (fun _ _ _ h => h) ?_ (by assumption) ?_; rotate_left; focus ((intro w' hSw; (try dsimp only at hSw); go_simp) <;> with_reducible rfl)); (try simp only [Act.put, List.setIfInBounds_toArray, List.set_cons_zero, List.set_cons_succ])
          refine wpAnyH_done (by kernel_rfl) ?_ _
          all_goals
            have hB5 := hB.trans ((belowd hb5).mono hz)
            go_wp2
            go_ret
            exact ⟨ret_b HN.out, hBW.trans (hB5.mono hsW)⟩
        · have HBK := Lib.hid hbk
          rcases hss : (s == s0) with _ | _
          · have HN := Lib.hid (qu_bad (w := w) (h := h) (sp := sp) HX.out (show blkOk (size0 bs) (s, cs) = false by unfold blkOk; simp only; rw [HS0.out, hss, Bool.and_false]))
            have hsn : ¬ s = s0 := fun e => by rw [e] at hss; simp at hss
            refine wp_region_held_drew (S := fun v => v.cell? ⟨b0, off0 + k * 2, none⟩ = some (.int .i64 s) ∧ v.cell? ⟨b0, off0 + k * 2 + 1, none⟩ = some (.slice A' n' c') ∧ v.cell? ⟨b0, off0, none⟩ = some (.int .i64 s0)) (by kernel_rfl) ⟨keepd g0, keepd g1, keepd k1⟩ (fun hHeld => ?_)
            (refine take_yes (i := 0) (d := some 40) (v := ?_) rfl rfl (by kernel_rfl) (by kernel_rfl) (by kernel_rfl) (by rfl) (fun _ _ _ h => h) ?_ (by assumption) ?_; rotate_left; focus ((intro w' hSw; (try dsimp only at hSw); go_simp) <;> with_reducible rfl)); (try simp only [Act.put, List.setIfInBounds_toArray, List.set_cons_zero, List.set_cons_succ])
            (refine take_yes (i := 1) (d := some 41) (v := ?_) rfl rfl (by kernel_rfl) (by kernel_rfl) (by kernel_rfl) (by rfl) (fun _ _ _ h => h) ?_ (by assumption) ?_; rotate_left; focus ((intro w' hSw; (try dsimp only at hSw); go_simp) <;> with_reducible rfl)); (try simp only [Act.put, List.setIfInBounds_toArray, List.set_cons_zero, List.set_cons_succ])
            (refine take_yes (i := 2) (d := some 42) (v := ?_) rfl rfl (by kernel_rfl) (by kernel_rfl) (by kernel_rfl) (by rfl) (fun _ _ _ h => h) ?_ (by assumption) ?_; rotate_left; focus ((intro w' hSw; (try dsimp only at hSw); go_simp) <;> with_reducible rfl)); (try simp only [Act.put, List.setIfInBounds_toArray, List.set_cons_zero, List.set_cons_succ])
            (refine take_yes (i := 3) (d := some 43) (v := ?_) rfl rfl (by kernel_rfl) (by kernel_rfl) (by kernel_rfl) (by rfl) (fun _ _ _ h => h) ?_ (by assumption) ?_; rotate_left; focus ((intro w' hSw; (try dsimp only at hSw); go_simp) <;> with_reducible rfl)); (try simp only [Act.put, List.setIfInBounds_toArray, List.set_cons_zero, List.set_cons_succ])
            refine wpAnyH_ready (rs := [4]) (by kernel_rfl) (by simp) ?_; refine AllReadyH.cons (o := _) rfl (fun K hK => ?_) AllReadyH.nil; go_simp; (go_at_call 25; refine (blockOkS_any s A' n' c' cs _ (hRc.below ((Below.refl _ _).drew)) hn').mono ?_; rintro e w5 ⟨rfl, hb5⟩; rw [hbk])
            refine hK.out _ _ ⟨keepd1 g0 hb5, keepd1 g1 hb5, keepd1 k1 hb5⟩ (fun hHeld => ?_)
            clear hK K; (try simp only [Act.put, List.setIfInBounds_toArray, List.set_cons_zero, List.set_cons_succ])
            (refine take_yes (i := 5) (d := some 45) (v := ?_) rfl rfl (by kernel_rfl) (by kernel_rfl) (by kernel_rfl) (by rfl) (fun _ _ _ h => h) ?_ (by assumption) ?_; rotate_left; focus ((intro w' hSw; (try dsimp only at hSw); go_simp) <;> with_reducible rfl)); (try simp only [Act.put, List.setIfInBounds_toArray, List.set_cons_zero, List.set_cons_succ])
            (refine take_yes (i := 6) (d := some 46) (v := ?_) rfl rfl (by kernel_rfl) (by kernel_rfl) (by kernel_rfl) (by rfl) (fun _ _ _ h => h) ?_ (by assumption) ?_; rotate_left; focus ((intro w' hSw; (try dsimp only at hSw); go_simp) <;> with_reducible rfl)); (try simp only [Act.put, List.setIfInBounds_toArray, List.set_cons_zero, List.set_cons_succ])
            (refine take_yes (i := 7) (d := some 47) (v := ?_) rfl rfl (by kernel_rfl) (by kernel_rfl) (by kernel_rfl) (by rfl) (fun _ _ _ h => h) ?_ (by assumption) ?_; rotate_left; focus ((intro w' hSw; (try dsimp only at hSw); go_simp) <;> with_reducible rfl)); (try simp only [Act.put, List.setIfInBounds_toArray, List.set_cons_zero, List.set_cons_succ])
            (refine take_yes (i := 8) (d := some 48) (v := ?_) rfl rfl (by kernel_rfl) (by kernel_rfl) (by kernel_rfl) (by rfl) (fun _ _ _ h => h) ?_ (by assumption) ?_; rotate_left; focus ((intro w' hSw; (try dsimp only at hSw); go_simp) <;> with_reducible rfl)); (try simp only [Act.put, List.setIfInBounds_toArray, List.set_cons_zero, List.set_cons_succ])
            (refine take_yes (i := 9) (d := some 49) (v := ?_) rfl rfl (by kernel_rfl) (by kernel_rfl) (by kernel_rfl) (by rfl) (fun _ _ _ h => h) ?_ (by assumption) ?_; rotate_left; focus ((intro w' hSw; (try dsimp only at hSw); go_simp) <;> with_reducible rfl)); (try simp only [Act.put, List.setIfInBounds_toArray, List.set_cons_zero, List.set_cons_succ])
            (refine take_yes (i := 10) (d := some 50) (v := ?_) rfl rfl (by kernel_rfl) (by kernel_rfl) (by kernel_rfl) (by rfl) (fun _ _ _ h => h) ?_ (by assumption) ?_; rotate_left; focus ((intro w' hSw; (try dsimp only at hSw); go_simp) <;> with_reducible rfl)); (try simp only [Act.put, List.setIfInBounds_toArray, List.set_cons_zero, List.set_cons_succ])
            (refine take_yes (i := 11) (d := some 51) (v := ?_) rfl rfl (by kernel_rfl) (by kernel_rfl) (by kernel_rfl) (by rfl) (fun _ _ _ h => h) ?_ (by assumption) ?_; rotate_left; focus ((intro w' hSw; (try dsimp only at hSw); go_simp) <;> with_reducible rfl)); (try simp only [Act.put, List.setIfInBounds_toArray, List.set_cons_zero, List.set_cons_succ])
            (refine take_yes (i := 12) (d := some 52) (v := ?_) rfl rfl (by kernel_rfl) (by kernel_rfl) (by kernel_rfl) (by rfl) (fun _ _ _ h => h) ?_ (by assumption) ?_; rotate_left; focus ((intro w' hSw; (try dsimp only at hSw); go_simp) <;> with_reducible rfl)); (try simp only [Act.put, List.setIfInBounds_toArray, List.set_cons_zero, List.set_cons_succ])
            (refine take_yes (i := 13) (d := some 53) (v := ?_) rfl rfl (by kernel_rfl) (by kernel_rfl) (by kernel_rfl) (by rfl) (fun _ _ _ h => h) ?_ (by assumption) ?_; rotate_left; focus ((intro w' hSw; (try dsimp only at hSw); go_simp) <;> with_reducible rfl)); (try simp only [Act.put, List.setIfInBounds_toArray, List.set_cons_zero, List.set_cons_succ])
            (refine take_yes (i := 14) (d := some 54) (v := ?_) rfl rfl (by kernel_rfl) (by kernel_rfl) (by kernel_rfl) (by rfl) (fun _ _ _ h => h) ?_ (by assumption) ?_; rotate_left; focus ((intro w' hSw; (try dsimp only at hSw); go_simp) <;> with_reducible rfl)); (try simp only [Act.put, List.setIfInBounds_toArray, List.set_cons_zero, List.set_cons_succ])
            (refine take_yes (i := 15) (d := some 55) (v := ?_) rfl rfl (by kernel_rfl) (by kernel_rfl) (by kernel_rfl) (by rfl) (fun _ _ _ h => h) ?_ (by assumption) ?_; rotate_left; focus ((intro w' hSw; (try dsimp only at hSw); go_simp) <;> with_reducible rfl)); (try simp only [Act.put, List.setIfInBounds_toArray, List.set_cons_zero, List.set_cons_succ])
            (refine take_yes (i := 16) (d := some 56) (v := ?_) rfl rfl (by kernel_rfl) (by kernel_rfl) (by kernel_rfl) (by rfl) (fun _ _ _ h => h) ?_ (by assumption) ?_; rotate_left; focus ((intro w' hSw; (try dsimp only at hSw); go_simp) <;> with_reducible rfl)); (try simp only [Act.put, List.setIfInBounds_toArray, List.set_cons_zero, List.set_cons_succ])
            (refine take_yes (i := 17) (d := some 57) (v := ?_) rfl rfl (by kernel_rfl) (by kernel_rfl) (by kernel_rfl) (by rfl) (fun _ _ _ h => h) ?_ (by assumption) ?_; rotate_left; focus ((intro w' hSw; (try dsimp only at hSw); go_simp) <;> with_reducible rfl)); (try simp only [Act.put, List.setIfInBounds_toArray, List.set_cons_zero, List.set_cons_succ])
            refine wpAnyH_done (by kernel_rfl) ?_ _
            all_goals
              have hB5 := hB.trans ((belowd hb5).mono hz)
              go_wp2
              go_ret
              exact ⟨ret_b HN.out, hBW.trans (hB5.mono hsW)⟩
          · have HC := Lib.hid (show blkOk (size0 bs) (s, cs) = true by unfold blkOk; simp only; rw [HBK.out, HS0.out, hss]; rfl)
            obtain rfl : s = s0 := beq_iff_eq.1 hss
            refine wp_region_held_drew (S := fun v => v.cell? ⟨b0, off0 + k * 2, none⟩ = some (.int .i64 s) ∧ v.cell? ⟨b0, off0 + k * 2 + 1, none⟩ = some (.slice A' n' c') ∧ v.cell? ⟨b0, off0, none⟩ = some (.int .i64 s)) (by kernel_rfl) ⟨keepd g0, keepd g1, keepd k1⟩ (fun hHeld => ?_)
            (refine take_yes (i := 0) (d := some 40) (v := ?_) rfl rfl (by kernel_rfl) (by kernel_rfl) (by kernel_rfl) (by rfl) (fun _ _ _ h => h) ?_ (by assumption) ?_; rotate_left; focus ((intro w' hSw; (try dsimp only at hSw); go_simp) <;> with_reducible rfl)); (try simp only [Act.put, List.setIfInBounds_toArray, List.set_cons_zero, List.set_cons_succ])
            (refine take_yes (i := 1) (d := some 41) (v := ?_) rfl rfl (by kernel_rfl) (by kernel_rfl) (by kernel_rfl) (by rfl) (fun _ _ _ h => h) ?_ (by assumption) ?_; rotate_left; focus ((intro w' hSw; (try dsimp only at hSw); go_simp) <;> with_reducible rfl)); (try simp only [Act.put, List.setIfInBounds_toArray, List.set_cons_zero, List.set_cons_succ])
            (refine take_yes (i := 2) (d := some 42) (v := ?_) rfl rfl (by kernel_rfl) (by kernel_rfl) (by kernel_rfl) (by rfl) (fun _ _ _ h => h) ?_ (by assumption) ?_; rotate_left; focus ((intro w' hSw; (try dsimp only at hSw); go_simp) <;> with_reducible rfl)); (try simp only [Act.put, List.setIfInBounds_toArray, List.set_cons_zero, List.set_cons_succ])
            (refine take_yes (i := 3) (d := some 43) (v := ?_) rfl rfl (by kernel_rfl) (by kernel_rfl) (by kernel_rfl) (by rfl) (fun _ _ _ h => h) ?_ (by assumption) ?_; rotate_left; focus ((intro w' hSw; (try dsimp only at hSw); go_simp) <;> with_reducible rfl)); (try simp only [Act.put, List.setIfInBounds_toArray, List.set_cons_zero, List.set_cons_succ])
            refine wpAnyH_ready (rs := [4]) (by kernel_rfl) (by simp) ?_; refine AllReadyH.cons (o := _) rfl (fun K hK => ?_) AllReadyH.nil; go_simp; (go_at_call 25; refine (blockOkS_any s A' n' c' cs _ (hRc.below ((Below.refl _ _).drew)) hn').mono ?_; rintro e w5 ⟨rfl, hb5⟩; rw [hbk])
            refine hK.out _ _ ⟨keepd1 g0 hb5, keepd1 g1 hb5, keepd1 k1 hb5⟩ (fun hHeld => ?_)
            clear hK K; (try simp only [Act.put, List.setIfInBounds_toArray, List.set_cons_zero, List.set_cons_succ])
            (refine take_yes (i := 5) (d := some 45) (v := ?_) rfl rfl (by kernel_rfl) (by kernel_rfl) (by kernel_rfl) (by rfl) (fun _ _ _ h => h) ?_ (by assumption) ?_; rotate_left; focus ((intro w' hSw; (try dsimp only at hSw); go_simp) <;> with_reducible rfl)); (try simp only [Act.put, List.setIfInBounds_toArray, List.set_cons_zero, List.set_cons_succ])
            (refine take_yes (i := 6) (d := some 46) (v := ?_) rfl rfl (by kernel_rfl) (by kernel_rfl) (by kernel_rfl) (by rfl) (fun _ _ _ h => h) ?_ (by assumption) ?_; rotate_left; focus ((intro w' hSw; (try dsimp only at hSw); go_simp) <;> with_reducible rfl)); (try simp only [Act.put, List.setIfInBounds_toArray, List.set_cons_zero, List.set_cons_succ])
            (refine take_yes (i := 7) (d := some 47) (v := ?_) rfl rfl (by kernel_rfl) (by kernel_rfl) (by kernel_rfl) (by rfl) (fun _ _ _ h => h) ?_ (by assumption) ?_; rotate_left; focus ((intro w' hSw; (try dsimp only at hSw); go_simp) <;> with_reducible rfl)); (try simp only [Act.put, List.setIfInBounds_toArray, List.set_cons_zero, List.set_cons_succ])
            (refine take_yes (i := 8) (d := some 48) (v := ?_) rfl rfl (by kernel_rfl) (by kernel_rfl) (by kernel_rfl) (by rfl) (fun _ _ _ h => h) ?_ (by assumption) ?_; rotate_left; focus ((intro w' hSw; (try dsimp only at hSw); go_simp) <;> with_reducible rfl)); (try simp only [Act.put, List.setIfInBounds_toArray, List.set_cons_zero, List.set_cons_succ])
            (refine take_yes (i := 9) (d := some 49) (v := ?_) rfl rfl (by kernel_rfl) (by kernel_rfl) (by kernel_rfl) (by rfl) (fun _ _ _ h => h) ?_ (by assumption) ?_; rotate_left; focus ((intro w' hSw; (try dsimp only at hSw); go_simp) <;> with_reducible rfl)); (try simp only [Act.put, List.setIfInBounds_toArray, List.set_cons_zero, List.set_cons_succ])
            (refine take_yes (i := 10) (d := some 50) (v := ?_) rfl rfl (by kernel_rfl) (by kernel_rfl) (by kernel_rfl) (by rfl) (fun _ _ _ h => h) ?_ (by assumption) ?_; rotate_left; focus ((intro w' hSw; (try dsimp only at hSw); go_simp) <;> with_reducible rfl)); (try simp only [Act.put, List.setIfInBounds_toArray, List.set_cons_zero, List.set_cons_succ])
            (refine take_yes (i := 11) (d := some 51) (v := ?_) rfl rfl (by kernel_rfl) (by kernel_rfl) (by kernel_rfl) (by rfl) (fun _ _ _ h => h) ?_ (by assumption) ?_; rotate_left; focus ((intro w' hSw; (try dsimp only at hSw); go_simp) <;> with_reducible rfl)); (try simp only [Act.put, List.setIfInBounds_toArray, List.set_cons_zero, List.set_cons_succ])
            (refine take_yes (i := 12) (d := some 52) (v := ?_) rfl rfl (by kernel_rfl) (by kernel_rfl) (by kernel_rfl) (by rfl) (fun _ _ _ h => h) ?_ (by assumption) ?_; rotate_left; focus ((intro w' hSw; (try dsimp only at hSw); go_simp) <;> with_reducible rfl)); (try simp only [Act.put, List.setIfInBounds_toArray, List.set_cons_zero, List.set_cons_succ])
            (refine take_yes (i := 13) (d := some 53) (v := ?_) rfl rfl (by kernel_rfl) (by kernel_rfl) (by kernel_rfl) (by rfl) (fun _ _ _ h => h) ?_ (by assumption) ?_; rotate_left; focus ((intro w' hSw; (try dsimp only at hSw); go_simp) <;> with_reducible rfl)); (try simp only [Act.put, List.setIfInBounds_toArray, List.set_cons_zero, List.set_cons_succ])
            (refine take_yes (i := 14) (d := some 54) (v := ?_) rfl rfl (by kernel_rfl) (by kernel_rfl) (by kernel_rfl) (by rfl) (fun _ _ _ h => h) ?_ (by assumption) ?_; rotate_left; focus ((intro w' hSw; (try dsimp only at hSw); go_simp) <;> with_reducible rfl)); (try simp only [Act.put, List.setIfInBounds_toArray, List.set_cons_zero, List.set_cons_succ])
            (refine take_yes (i := 15) (d := some 55) (v := ?_) rfl rfl (by kernel_rfl) (by kernel_rfl) (by kernel_rfl) (by rfl) (fun _ _ _ h => h) ?_ (by assumption) ?_; rotate_left; focus ((intro w' hSw; (try dsimp only at hSw); go_simp) <;> with_reducible rfl)); (try simp only [Act.put, List.setIfInBounds_toArray, List.set_cons_zero, List.set_cons_succ])
            (refine take_yes (i := 16) (d := some 56) (v := ?_) rfl rfl (by kernel_rfl) (by kernel_rfl) (by kernel_rfl) (by rfl) (fun _ _ _ h => h) ?_ (by assumption) ?_; rotate_left; focus ((intro w' hSw; (try dsimp only at hSw); go_simp) <;> with_reducible rfl)); (try simp only [Act.put, List.setIfInBounds_toArray, List.set_cons_zero, List.set_cons_succ])
            (refine take_yes (i := 17) (d := some 57) (v := ?_) rfl rfl (by kernel_rfl) (by kernel_rfl) (by kernel_rfl) (by rfl) (fun _ _ _ h => h) ?_ (by assumption) ?_; rotate_left; focus ((intro w' hSw; (try dsimp only at hSw); go_simp) <;> with_reducible rfl)); (try simp only [Act.put, List.setIfInBounds_toArray, List.set_cons_zero, List.set_cons_succ])
            refine wpAnyH_done (by kernel_rfl) ?_ _
            all_goals
              have hB5 := hB.trans ((belowd hb5).mono hz)
              go_wp2
              go_roundw
              case rel => exact ⟨k + 1, by omega, by go_num, all_take_succ HX.out hall.out HC.out, hB5⟩
              case measure => simp [intOf]; omega
      · obtain rfl : k = m := by omega
        have HALL := Lib.hid (show bs.all (blkOk (size0 bs)) = true by have := hall.out; rwa [List.take_of_length_le (Nat.le_of_eq HLB.out)] at this)
        have e1 := keepcell e0 hB
        have hR2 := hR1.below hB
        have hBV := hBW.trans (hB.mono hsW)
        have hsV := hBV.size
        clear hall hB hz k1 k0 hbW0 hS1 hR1 e0 hBW hsW
        go_wp2_with fail
        go_loopw [6] (fun i w2 => ∃ p : Nat, p ≤ n ∧ i = .int .i64 (p : Int) ∧ Hid ((sp.take p).all (spotOk ((k : Int) - 1)) = true) ∧ Below wr.heap.size wr w2) (fun i _ => n - (intOf i).toNat)
        case atStart => exact ⟨0, Nat.zero_le _, rfl, by simp [Hid], Below.refl _ _⟩
        case round =>
          obtain ⟨p, hp, rfl, hsp, hB⟩ := hrel
          have hz := hB.size
          have e2 := keepcell e1 hB
          by_cases hlt : p < n
          · obtain ⟨b, off, x, rfl, hbW, hx, g0, g1⟩ := hR2.spot hlt hB
            have HX := Lib.hid hx
            clear hx
            obtain ⟨x0, x1⟩ := x
            simp only at g0 g1
            rcases c0 : within x0 0 ((k : Int) - 1) with _ | _
            · have HC : Hid (spotOk ((k : Int) - 1) ⟨x0, x1⟩ = false) := by show spotOk ((k : Int) - 1) ⟨x0, x1⟩ = false; unfold spotOk; simp only; rw [c0]; rfl
              go_wp2_with (first | (go_at_call 44; refine (l01In_any _ _ _ _).mono ?_; rintro e w' ⟨rfl, rfl⟩))
              go_ret
              exact ⟨ret_b (qu_no1 (by rw [HLB.out]; exact (isq_bad HX.out HC.out).symm)), hBV.trans (Below.mono (by (repeat (first | exact Below.refl _ _ | assumption | (refine Below.drew ?_) | (refine below_drewN ?_ _) | (refine Below.alloc ?_ (by first | exact Nat.le_refl _ | (simp; done) | (simp; omega) | omega) _) | (refine Below.setCell ?_ (by first | exact Nat.le_refl _ | (simp; done) | (simp; omega) | omega) _) | (refine Below.trans ?_ (Below.mono (by assumption) (by first | exact Nat.le_refl _ | (simp; done) | (simp; omega) | omega)))))) hsV)⟩
            rcases c1 : within x1 0 7 with _ | _
            · have HC : Hid (spotOk ((k : Int) - 1) ⟨x0, x1⟩ = false) := by show spotOk ((k : Int) - 1) ⟨x0, x1⟩ = false; unfold spotOk; simp only; rw [c1, Bool.and_false]
              go_wp2_with (first | (go_at_call 44; refine (l01In_any _ _ _ _).mono ?_; rintro e w' ⟨rfl, rfl⟩))
              go_ret
              exact ⟨ret_b (qu_no1 (by rw [HLB.out]; exact (isq_bad HX.out HC.out).symm)), hBV.trans (Below.mono (by (repeat (first | exact Below.refl _ _ | assumption | (refine Below.drew ?_) | (refine below_drewN ?_ _) | (refine Below.alloc ?_ (by first | exact Nat.le_refl _ | (simp; done) | (simp; omega) | omega) _) | (refine Below.setCell ?_ (by first | exact Nat.le_refl _ | (simp; done) | (simp; omega) | omega) _) | (refine Below.trans ?_ (Below.mono (by assumption) (by first | exact Nat.le_refl _ | (simp; done) | (simp; omega) | omega)))))) hsV)⟩
            have HC : Hid (spotOk ((k : Int) - 1) ⟨x0, x1⟩ = true) := by show spotOk ((k : Int) - 1) ⟨x0, x1⟩ = true; unfold spotOk; simp only; rw [c0, c1]; rfl
            go_wp2_with (first | (go_at_call 44; refine (l01In_any _ _ _ _).mono ?_; rintro e w' ⟨rfl, rfl⟩))
            go_roundw
            case rel => exact ⟨p + 1, by omega, by go_num, all_take_succ HX.out hsp.out HC.out, by (repeat (first | exact Below.refl _ _ | assumption | (refine Below.drew ?_) | (refine below_drewN ?_ _) | (refine Below.alloc ?_ (by first | exact Nat.le_refl _ | (simp; done) | (simp; omega) | omega) _) | (refine Below.setCell ?_ (by first | exact Nat.le_refl _ | (simp; done) | (simp; omega) | omega) _) | (refine Below.trans ?_ (Below.mono (by assumption) (by first | exact Nat.le_refl _ | (simp; done) | (simp; omega) | omega)))))⟩
            case measure => simp [intOf]; omega
          · obtain rfl : p = n := by omega
            have HN := Lib.hid (qu_end (w := w) (h := h) (sp := sp) (bs := bs) (by rw [HLB.out]; exact (isq_end H1.out H2.out H3.out (by have := hsp.out; rwa [List.take_of_length_le (Nat.le_of_eq HLEN.out)] at this)).symm) (by rw [HLB.out]; exact H4.out) HALL.out)
            go_wp2
            go_ret
            exact ⟨ret_b HN.out, hBV.trans (hB.mono hsV)⟩
  · have HN := Lib.hid (qu_no1 (bs := bs) (isq_no3 (m := (bs.length : Int) - 1) (show (sp.length : Int) ≠ w * h by rw [HLEN.out]; exact h3)).symm)
    have h3' : ((n : Int) == w * h) = false := by rw [beq_eq_false_iff_ne]; exact h3
    clear h3
    go_enter Try.func33, Try.ntmps33
    go_wp2_with (first | (go_at_call 44; refine (l01In_any _ _ _ _).mono ?_; rintro e w' ⟨rfl, rfl⟩))
    go_ret
    exact ⟨ret_b HN.out, by (repeat (first | exact Below.refl _ _ | assumption | (refine Below.drew ?_) | (refine below_drewN ?_ _) | (refine Below.alloc ?_ (by first | exact Nat.le_refl _ | (simp; done) | (simp; omega) | omega) _) | (refine Below.setCell ?_ (by first | exact Nat.le_refl _ | (simp; done) | (simp; omega) | omega) _) | (refine Below.trans ?_ (Below.mono (by assumption) (by first | exact Nat.le_refl _ | (simp; done) | (simp; omega) | omega)))))⟩

end Go.Proofs.Ytkbpehklfjnjjaa
