/-
  The walk of the law: a layout can be sewn if no part of it is a knot.
-/
import Derived.Test.YtmjdgplkcocgmaaKnoP
import Derived.Test.YtmjdgplkcocgmaaReg
import Derived.Deep.DeepCutAuto
set_option linter.unusedVariables false
set_option linter.unusedSimpArgs false
namespace Go.Proofs.Ytmjdgplkcocgmaa
open Go.RowKit

set_option maxRecDepth 100000 in
set_option maxHeartbeats 40000000 in
theorem walk_FnCuts (A0 : Option Addr) (n0 c0 : Nat) (xs0 : List UInt8) (W : World) (hk0_ : n0 ≤ c0) (hm0_ : c0 ≤ maxLen) (hR0 : Rd W A0 n0 1 xs0 byteC) :
    Calls Try.prog 12 #[.slice A0 n0 c0] W fun e w' => e = .returned (.bool true) ∧ Below W.heap.size W w' := by
  have hn63 : n0 ≤ 9223372036854775807 := by unfold maxLen at hm0_; omega
  rcases Nat.lt_or_ge 1048576 n0 with hn0 | hn0
  · have hbig : decide ((1048576 : Int) < n0) = true := by simpa using (by omega : (1048576 : Int) < n0)
    go_enter Try.func12, Try.ntmps12
    go_wp2_with fail
    refine (big_any A0 n0 c0 _ hn63).mono ?_
    rintro e w' ⟨rfl, rfl⟩
    go_wp2_with fail
    go_ret
    exact ⟨rfl, by (repeat (first | exact Below.refl _ _ | assumption | (refine Below.drew ?_) | (refine below_drewN ?_ _) | (refine Below.alloc ?_ (by first | exact Nat.le_refl _ | (simp; done) | (simp; omega) | omega) _) | (refine Below.setCell ?_ (by first | exact Nat.le_refl _ | (simp; done) | (simp; omega) | omega) _) | (refine Below.trans ?_ (Below.mono (by assumption) (by first | exact Nat.le_refl _ | (simp; done) | (simp; omega) | omega)))))⟩
  have hbig : decide ((1048576 : Int) < n0) = false := by simpa using (by omega : ¬ (1048576 : Int) < n0)
  go_enter Try.func12, Try.ntmps12
  go_wp2_with fail
  refine (big_any A0 n0 c0 _ hn63).mono ?_
  rintro e w' ⟨rfl, rfl⟩
  go_wp2_with fail
  refine (drawLayout_any A0 n0 c0 xs0 _ hR0 hn0).mono ?_
  rintro e w1 ⟨w, h, ps, A, n, c, rfl, hok, hR1, hb1⟩
  obtain ⟨w2, hw2⟩ : ∃ v, Hid (w1.alloc (.cells #[.int .i64 w, .int .i64 h, .slice A n c] 30) = v) := ⟨_, rfl⟩
  obtain ⟨jb, hjb⟩ : ∃ j, Hid (w1.heap.size = j) := ⟨_, rfl⟩
  have q2 : w2.heap[jb]? = some (.cells #[.int .i64 w, .int .i64 h, .slice A n c] 30 (0, 0)) := by rw [← hw2.out, ← hjb.out]; exact heap_alloc_new w1 _
  have b2 : Below w1.heap.size w1 w2 := by rw [← hw2.out]; exact (Below.refl _ _).alloc (Nat.le_refl _) _
  have hB2 : Below W.heap.size W w2 := hb1.trans (b2.mono hb1.size)
  have hR2 := hR1.below b2
  have HLEN := Lib.hid hR2.len
  have hn12 := (layout_parts hok).2.2.1
  rw [HLEN.out] at hn12
  have hN : n ≤ 1048576 := by omega
  have HOK := Lib.hid hok
  have HSEW := Lib.hid (sew_of hok)
  clear hR1 b2 hR0 hb1 hbig hok
  go_wp2_with fail
  rw [hw2.out, hjb.out]
  refine (canSewI_any w h A n c ps _ hR2 hN).mono ?_
  rintro e w3 ⟨rfl, hb3⟩
  have hB3 := hB2.trans (hb3.mono hB2.size)
  have hR3 := hR2.below hb3
  have q3 := (hb3.block jb (heap_lt q2)).trans q2
  obtain ⟨e0, e1, e2⟩ : (w3.cell? ⟨jb, 0, none⟩ = some (.int .i64 w)) ∧ (w3.cell? ⟨jb, 1, none⟩ = some (.int .i64 h)) ∧ w3.cell? ⟨jb, 2, none⟩ = some (.slice A n c) := ⟨by rw [cell_of_row _ _ _ _ _ _ q3]; rfl, by rw [cell_of_row _ _ _ _ _ _ q3]; rfl, by rw [cell_of_row _ _ _ _ _ _ q3]; rfl⟩
  clear hb3 hB2 hR2 q2
  go_wp2_with fail
  refine (cutsOfI_any w h A n c ps _ hR3 hN).mono ?_
  rintro e w4 ⟨C2, k2, rfl, hk2, hO4, hb4⟩
  obtain ⟨M, hM⟩ : ∃ m, Hid ((cutsOf w h ps).length = m) := ⟨_, rfl⟩
  have hC4 := hO4.rd
  rw [hM.out] at hC4 ⊢
  have hM24 : M ≤ 24 := by rw [← hM.out, ← cutsUp_end]; exact cutsUp_len w h ps 24 (Nat.le_refl _)
  have hB4 := hB3.trans (hb4.mono hB3.size)
  have hR4 := hR3.below hb4
  replace e0 := keepcell e0 hb4
  replace e1 := keepcell e1 hb4
  replace e2 := keepcell e2 hb4
  have q4 := (hb4.block jb (heap_lt q3)).trans q3
  clear hb4 hB3 hR3 q3 hO4 hk2
  go_wp2_with fail
  refine (knotI_any w h A n c ps _ hR4 hN).mono ?_
  rintro e w5 ⟨A6, n6, c6, rfl, hc6, hO6, hb5⟩
  have hB5 := hB4.trans (hb5.mono hB4.size)
  have hR5 := hR4.below hb5
  have hC5 := hC4.below hb5
  have hK5 := hO6.rd
  have q5 := (hb5.block jb (heap_lt q4)).trans q4
  clear e0 e1 e2
  clear hb5 hB4 hR4 q4 hO6 hC4
  obtain ⟨kk, hkk⟩ : ∃ o, Hid (firstKnot ⟨w, h, ps⟩ = o) := ⟨_, rfl⟩
  rw [hkk.out] at HSEW hK5 ⊢
  obtain ⟨can, hcan⟩ : ∃ b, Hid (canSew ⟨w, h, ps⟩ = b) := ⟨_, rfl⟩
  have HSEW2 : Hid ((!kk.isSome) = can) := by rw [← hcan.out]; exact HSEW
  rw [hcan.out]
  clear HSEW
  obtain ⟨kW, hkW⟩ : ∃ b, Hid (kw kk = b) := ⟨_, rfl⟩
  obtain ⟨kH, hkH⟩ : ∃ b, Hid (kh kk = b) := ⟨_, rfl⟩
  rw [hkW.out, hkH.out]
  obtain ⟨w6, hw6⟩ : ∃ v, Hid (w5.alloc (.cells #[.int .i64 kW, .int .i64 kH, .slice A6 n6 c6] 30) = v) := ⟨_, rfl⟩
  obtain ⟨j6, hj6⟩ : ∃ j, Hid (w5.heap.size = j) := ⟨_, rfl⟩
  have q6 : w6.heap[j6]? = some (.cells #[.int .i64 kW, .int .i64 kH, .slice A6 n6 c6] 30 (0, 0)) := by rw [← hw6.out, ← hj6.out]; exact heap_alloc_new w5 _
  have b6 : Below w5.heap.size w5 w6 := by rw [← hw6.out]; exact (Below.refl _ _).alloc (Nat.le_refl _) _
  have hB6 := hB5.trans (b6.mono hB5.size)
  have hR6 := hR5.below b6
  have hC6 := hC5.below b6
  have hK6 := hK5.below b6
  have q6b := (b6.block jb (heap_lt q5)).trans q5
  clear b6 hB5 hR5 hC5 hK5 q5
  obtain ⟨e0, e1, e2⟩ : (w6.cell? ⟨jb, 0, none⟩ = some (.int .i64 w)) ∧ (w6.cell? ⟨jb, 1, none⟩ = some (.int .i64 h)) ∧ w6.cell? ⟨jb, 2, none⟩ = some (.slice A n c) := ⟨by rw [cell_of_row _ _ _ _ _ _ q6b]; rfl, by rw [cell_of_row _ _ _ _ _ _ q6b]; rfl, by rw [cell_of_row _ _ _ _ _ _ q6b]; rfl⟩
  have hw1 : IntKind.i64.wrap ((n : Int) - 1) = (n : Int) - 1 := by rw [IntKind.wrap_i64]; omega
  generalize hsome : kk.isSome = know at HSEW2 ⊢
  have HSOME := Lib.hid hsome
  have hkn : know = !can := by rw [← HSEW2.out, Bool.not_not]
  subst hkn
  clear hsome HSEW2
  have HCS : Hid (countSeams ⟨w, h, ps⟩ = if can then (n : Int) - 1 else -1) := by
    rw [← HLEN.out]
    unfold countSeams
    rw [hcan.out]
    exact Lib.hid rfl
  cases can
  · skip
    have hcs := HCS.out
    rw [if_neg (by simp)] at hcs
    have HCS2 := Lib.hid hcs; clear hcs
    go_wp2_with (rw [hw6.out]; (try rw [hj6.out]))
    refine wp_region_held_drew (S := fun v => v.cell? ⟨jb, 0, none⟩ = some (.int .i64 w) ∧ v.cell? ⟨jb, 1, none⟩ = some (.int .i64 h) ∧ v.cell? ⟨jb, 2, none⟩ = some (.slice A n c)) (by kernel_rfl) ⟨keep_drew e0, keep_drew e1, keep_drew e2⟩ (fun hHeld => ?_)
    have hB7 : Below W.heap.size W (World.drew w6) := hB6.drew
    have hR7 : Rd (World.drew w6) A n 5 ps patchC := hR6
    have hC7 : Rd (World.drew w6) C2 M 2 (cutsOf w h ps) cutC := hC6
    have hK7 : Rd (World.drew w6) A6 n6 5 (kp kk) patchC := hK6
    have q7 : (World.drew w6).heap[j6]? = some (.cells #[.int .i64 kW, .int .i64 kH, .slice A6 n6 c6] 30 (0, 0)) := q6
    have p7 : (World.drew w6).heap[jb]? = some (.cells #[.int .i64 w, .int .i64 h, .slice A n c] 30 (0, 0)) := q6b
    clear e0 e1 e2 hB6 hR6 hC6 hK6 q6 q6b
    obtain ⟨v0, hv0⟩ : ∃ v, Hid (World.drew w6 = v) := ⟨_, rfl⟩
    rw [hv0.out] at hHeld hB7 hR7 hC7 hK7 q7 p7 ⊢
    (refine take_yes (i := 0) (d := some 25) (v := ?_) rfl rfl (by kernel_rfl) (by kernel_rfl) (by kernel_rfl) (by rfl) (fun _ _ _ h => h) ?_ (by assumption) ?_; rotate_left; focus ((intro w' hSw; (try dsimp only at hSw); go_simp) <;> with_reducible rfl)); (try simp only [Act.put, List.setIfInBounds_toArray, List.set_cons_zero, List.set_cons_succ])
    (refine take_yes (i := 1) (d := some 26) (v := ?_) rfl rfl (by kernel_rfl) (by kernel_rfl) (by kernel_rfl) (by rfl) (fun _ _ _ h => h) ?_ (by assumption) ?_; rotate_left; focus ((intro w' hSw; (try dsimp only at hSw); go_simp) <;> with_reducible rfl)); (try simp only [Act.put, List.setIfInBounds_toArray, List.set_cons_zero, List.set_cons_succ])
    (refine take_yes (i := 2) (d := some 27) (v := ?_) rfl rfl (by kernel_rfl) (by kernel_rfl) (by kernel_rfl) (by rfl) (fun _ _ _ h => h) ?_ (by assumption) ?_; rotate_left; focus ((intro w' hSw; (try dsimp only at hSw); go_simp) <;> with_reducible rfl)); (try simp only [Act.put, List.setIfInBounds_toArray, List.set_cons_zero, List.set_cons_succ])
    (refine take_yes (i := 3) (d := some 28) (v := ?_) rfl rfl (by kernel_rfl) (by kernel_rfl) (by kernel_rfl) (by rfl) (fun _ _ _ h => h) ?_ (by assumption) ?_; rotate_left; focus ((intro w' hSw; (try dsimp only at hSw); go_simp) <;> with_reducible rfl)); (try simp only [Act.put, List.setIfInBounds_toArray, List.set_cons_zero, List.set_cons_succ])
    (refine take_yes (i := 4) (d := some 29) (v := ?_) rfl rfl (by kernel_rfl) (by kernel_rfl) (by kernel_rfl) (by rfl) (fun _ _ _ h => h) ?_ (by assumption) ?_; rotate_left; focus ((intro w' hSw; (try dsimp only at hSw); go_simp) <;> with_reducible rfl)); (try simp only [Act.put, List.setIfInBounds_toArray, List.set_cons_zero, List.set_cons_succ])
    (refine take_yes (i := 5) (d := some 30) (v := ?_) rfl rfl (by kernel_rfl) (by kernel_rfl) (by kernel_rfl) (by rfl) (fun _ _ _ h => h) ?_ (by assumption) ?_; rotate_left; focus ((intro w' hSw; (try dsimp only at hSw); go_simp) <;> with_reducible rfl)); (try simp only [Act.put, List.setIfInBounds_toArray, List.set_cons_zero, List.set_cons_succ])
    have wz0 : IntKind.i64.wrap 0 = 0 := by decide
    have wz1 : IntKind.i64.wrap (0 - 1) = -1 := by decide
    have wz2 : IntKind.i64.wrap (-1) = -1 := by decide
    refine wpAnyH_ready (rs := [6]) (by kernel_rfl) (by simp) ?_; refine AllReadyH.cons (o := _) rfl (fun K hK => ?_) AllReadyH.nil; go_simp; (go_at_call 54; refine (canSewS_any w h A n c ps _ hR7 hN).mono ?_; rw [hcan.out]; rintro e v1 ⟨rfl, bb1⟩)
    refine hK.out _ _ ⟨keepcell (hHeld.1) bb1, keepcell (hHeld.2.1) bb1, keepcell (hHeld.2.2) bb1⟩ (fun hHeld => ?_)
    clear hK K; (try simp only [Act.put, List.setIfInBounds_toArray, List.set_cons_zero, List.set_cons_succ])
    replace hB7 := hB7.trans (bb1.mono hB7.size)
    replace hR7 := hR7.below bb1
    replace hC7 := hC7.below bb1
    replace hK7 := hK7.below bb1
    replace q7 := (bb1.block _ (heap_lt q7)).trans q7
    replace p7 := (bb1.block _ (heap_lt p7)).trans p7
    clear bb1
    (refine take_yes (i := 7) (d := some 32) (v := ?_) rfl rfl (by kernel_rfl) (by kernel_rfl) (by kernel_rfl) (by rfl) (fun _ _ _ h => h) ?_ (by assumption) ?_; rotate_left; focus ((intro w' hSw; (try dsimp only at hSw); go_simp) <;> with_reducible rfl)); (try simp only [Act.put, List.setIfInBounds_toArray, List.set_cons_zero, List.set_cons_succ])
    (refine take_yes (i := 8) (d := some 33) (v := ?_) rfl rfl (by kernel_rfl) (by kernel_rfl) (by kernel_rfl) (by rfl) (fun _ _ _ h => h) ?_ (by assumption) ?_; rotate_left; focus ((intro w' hSw; (try dsimp only at hSw); go_simp) <;> with_reducible rfl)); (try simp only [Act.put, List.setIfInBounds_toArray, List.set_cons_zero, List.set_cons_succ])
    (refine take_yes (i := 9) (d := some 34) (v := ?_) rfl rfl (by kernel_rfl) (by kernel_rfl) (by kernel_rfl) (by rfl) (fun _ _ _ h => h) ?_ (by assumption) ?_; rotate_left; focus ((intro w' hSw; (try dsimp only at hSw); go_simp) <;> with_reducible rfl)); (try simp only [Act.put, List.setIfInBounds_toArray, List.set_cons_zero, List.set_cons_succ])
    (refine take_yes (i := 10) (d := some 35) (v := ?_) rfl rfl (by kernel_rfl) (by kernel_rfl) (by kernel_rfl) (by rfl) (fun _ _ _ h => h) ?_ (by assumption) ?_; rotate_left; focus ((intro w' hSw; (try dsimp only at hSw); go_simp) <;> with_reducible rfl)); (try simp only [Act.put, List.setIfInBounds_toArray, List.set_cons_zero, List.set_cons_succ])
    (refine take_yes (i := 12) (d := some 37) (v := ?_) rfl rfl (by kernel_rfl) (by kernel_rfl) (by kernel_rfl) (by rfl) (fun _ _ _ h => h) ?_ (by assumption) ?_; rotate_left; focus ((intro w' hSw; (try dsimp only at hSw); go_simp) <;> with_reducible rfl)); (try simp only [Act.put, List.setIfInBounds_toArray, List.set_cons_zero, List.set_cons_succ])
    (refine take_yes (i := 13) (d := some 38) (v := ?_) rfl rfl (by kernel_rfl) (by kernel_rfl) (by kernel_rfl) (by rfl) (fun _ _ _ h => h) ?_ (by assumption) ?_; rotate_left; focus ((intro w' hSw; (try dsimp only at hSw); go_simp) <;> with_reducible rfl)); (try simp only [Act.put, List.setIfInBounds_toArray, List.set_cons_zero, List.set_cons_succ])
    (refine take_yes (i := 14) (d := some 39) (v := ?_) rfl rfl (by kernel_rfl) (by kernel_rfl) (by kernel_rfl) (by rfl) (fun _ _ _ h => h) ?_ (by assumption) ?_; rotate_left; focus ((intro w' hSw; (try dsimp only at hSw); go_simp) <;> with_reducible rfl)); (try simp only [Act.put, List.setIfInBounds_toArray, List.set_cons_zero, List.set_cons_succ])
    (refine take_yes (i := 15) (d := some 40) (v := ?_) rfl rfl (by kernel_rfl) (by kernel_rfl) (by kernel_rfl) (by rfl) (fun _ _ _ h => h) ?_ (by assumption) ?_; rotate_left; focus ((intro w' hSw; (try dsimp only at hSw); go_simp) <;> with_reducible rfl)); (try simp only [Act.put, List.setIfInBounds_toArray, List.set_cons_zero, List.set_cons_succ])
    (refine take_yes (i := 16) (d := some 41) (v := ?_) rfl rfl (by kernel_rfl) (by kernel_rfl) (by kernel_rfl) (by rfl) (fun _ _ _ h => h) ?_ (by assumption) ?_; rotate_left; focus ((intro w' hSw; (try dsimp only at hSw); go_simp) <;> with_reducible rfl)); (try simp only [Act.put, List.setIfInBounds_toArray, List.set_cons_zero, List.set_cons_succ])
    (refine take_yes (i := 19) (d := some 44) (v := ?_) rfl rfl (by kernel_rfl) (by kernel_rfl) (by kernel_rfl) (by rfl) (fun _ _ _ h => h) ?_ (by assumption) ?_; rotate_left; focus ((intro w' hSw; (try dsimp only at hSw); go_simp) <;> with_reducible rfl)); (try simp only [Act.put, List.setIfInBounds_toArray, List.set_cons_zero, List.set_cons_succ])
    (refine take_yes (i := 20) (d := some 45) (v := ?_) rfl rfl (by kernel_rfl) (by kernel_rfl) (by kernel_rfl) (by rfl) (fun _ _ _ h => h) ?_ (by assumption) ?_; rotate_left; focus ((intro w' hSw; (try dsimp only at hSw); go_simp) <;> with_reducible rfl)); (try simp only [Act.put, List.setIfInBounds_toArray, List.set_cons_zero, List.set_cons_succ])
    refine wpAnyH_ready (rs := [11]) (by kernel_rfl) (by simp) ?_; refine AllReadyH.cons (o := _) rfl (fun K hK => ?_) AllReadyH.nil; go_simp; (go_at_call 44; refine (countI_any w h A n c ps _ hR7 hN).mono ?_; rw [HCS2.out]; rintro e v2 ⟨rfl, bb2⟩)
    refine hK.out _ _ ⟨keepcell (hHeld.1) bb2, keepcell (hHeld.2.1) bb2, keepcell (hHeld.2.2) bb2⟩ (fun hHeld => ?_)
    clear hK K; (try simp only [Act.put, List.setIfInBounds_toArray, List.set_cons_zero, List.set_cons_succ])
    replace hB7 := hB7.trans (bb2.mono hB7.size)
    replace hR7 := hR7.below bb2
    replace hC7 := hC7.below bb2
    replace hK7 := hK7.below bb2
    replace q7 := (bb2.block _ (heap_lt q7)).trans q7
    replace p7 := (bb2.block _ (heap_lt p7)).trans p7
    clear bb2
    refine wpAnyH_ready (rs := [17]) (by kernel_rfl) (by simp) ?_; refine AllReadyH.cons (o := _) rfl (fun K hK => ?_) AllReadyH.nil; go_simp; (go_at_call 55; refine (btoi_any _ _).mono ?_; rintro e v ⟨rfl, rfl⟩)
    refine hK.out _ _ hHeld (fun hHeld => ?_)
    clear hK K; (try simp only [Act.put, List.setIfInBounds_toArray, List.set_cons_zero, List.set_cons_succ])
    (try simp only [Bool.false_eq_true, if_false, if_true])
    (refine take_yes (i := 18) (d := some 43) (v := ?_) rfl rfl (by kernel_rfl) (by kernel_rfl) (by kernel_rfl) (by rfl) (fun _ _ _ h => h) ?_ (by assumption) ?_; rotate_left; focus ((intro w' hSw; (try dsimp only at hSw); go_simp) <;> with_reducible rfl)); (try simp only [Act.put, List.setIfInBounds_toArray, List.set_cons_zero, List.set_cons_succ])
    (try simp only [wz0])
    refine wpAnyH_ready (rs := [21]) (by kernel_rfl) (by simp) ?_; refine AllReadyH.cons (o := _) rfl (fun K hK => ?_) AllReadyH.nil; go_simp; (go_at_call 55; refine (btoi_any _ _).mono ?_; rintro e v ⟨rfl, rfl⟩)
    refine hK.out _ _ hHeld (fun hHeld => ?_)
    clear hK K; (try simp only [Act.put, List.setIfInBounds_toArray, List.set_cons_zero, List.set_cons_succ])
    (try simp only [Bool.false_eq_true, if_false, if_true, Bool.not_true, Bool.not_false])
    (refine take_yes (i := 22) (d := some 47) (v := ?_) rfl rfl (by kernel_rfl) (by kernel_rfl) (by kernel_rfl) (by rfl) (fun _ _ _ h => h) ?_ (by assumption) ?_; rotate_left; focus ((intro w' hSw; (try dsimp only at hSw); go_simp) <;> with_reducible rfl)); (try simp only [Act.put, List.setIfInBounds_toArray, List.set_cons_zero, List.set_cons_succ])
    (try simp only [wz0, wz1, wz2])
    (refine take_yes (i := 23) (d := some 48) (v := ?_) rfl rfl (by kernel_rfl) (by kernel_rfl) (by kernel_rfl) (by rfl) (fun _ _ _ h => h) ?_ (by assumption) ?_; rotate_left; focus ((intro w' hSw; (try dsimp only at hSw); go_simp) <;> with_reducible rfl)); (try simp only [Act.put, List.setIfInBounds_toArray, List.set_cons_zero, List.set_cons_succ])
    (refine take_yes (i := 24) (d := some 49) (v := ?_) rfl rfl (by kernel_rfl) (by kernel_rfl) (by kernel_rfl) (by rfl) (fun _ _ _ h => h) ?_ (by assumption) ?_; rotate_left; focus ((intro w' hSw; (try dsimp only at hSw); go_simp) <;> with_reducible rfl)); (try simp only [Act.put, List.setIfInBounds_toArray, List.set_cons_zero, List.set_cons_succ])
    clear wz0 wz1 wz2
    refine wpAnyH_done (by kernel_rfl) ?_ _
    clear hw1
    go_wp2_with fail
    have HP7 := Lib.hid p7; have HQ7 := Lib.hid q7; have hjb7 := heap_lt p7; have hj67 := heap_lt q7; clear hHeld p7 q7
    go_loopw [8] (fun i wr => ∃ k : Nat, k ≤ M ∧ i = .int .i64 (k : Int) ∧ Below v2.heap.size v2 wr) (fun i _ => M - (intOf i).toNat)
    case atStart => exact ⟨0, by omega, rfl, Below.refl _ _⟩
    case round =>
      obtain ⟨k, hk, rfl, hBl⟩ := hrel
      have hz := hBl.size
      have pr := (hBl.block jb hjb7).trans HP7.out
      obtain ⟨e0, e1, e2⟩ : (wr.cell? ⟨jb, 0, none⟩ = some (.int .i64 w)) ∧ (wr.cell? ⟨jb, 1, none⟩ = some (.int .i64 h)) ∧ wr.cell? ⟨jb, 2, none⟩ = some (.slice A n c) := ⟨by rw [cell_of_row _ _ _ _ _ _ pr]; rfl, by rw [cell_of_row _ _ _ _ _ _ pr]; rfl, by rw [cell_of_row _ _ _ _ _ _ pr]; rfl⟩
      by_cases hlt : k < M
      · obtain ⟨b, off, x, rfl, hbW, hx, q0, q1⟩ := hC7.cut hlt hBl
        replace hbW := Nat.lt_of_lt_of_le hbW hz
        have hcut := mem_cuts.1 (List.mem_of_getElem? hx)
        obtain ⟨up, at'⟩ := x
        simp only at q0 q1
        have HK := Lib.hid hcut
        have hab := sew_any ps.length ⟨w, h, ps⟩ (Nat.le_refl _) ⟨up, at'⟩ hcut
        rw [hcan.out] at hab
        have hab' : (canSew ⟨wA w ⟨up, at'⟩, hA h ⟨up, at'⟩, partA ⟨up, at'⟩ ps⟩ && canSew ⟨wB w ⟨up, at'⟩, hB h ⟨up, at'⟩, partB ⟨up, at'⟩ ps⟩) = false := hab
        have HAB := Lib.hid hab'
        have HPO := Lib.hid (parts_ok hcut)
        have HLS := Lib.hid (len_split ⟨up, at'⟩ ps)
        have hkM : (k : Int) < (M : Int) := by omega
        have hRr := hR7.below hBl
        have hCr := hC7.below hBl
        have HRR := Lib.hid hRr; have HCR := Lib.hid hCr
        clear hcut hab hab' hx pr
        go_upto_region 12 with fail
        go_cut [9, 10, 11] (fun s9 s10 s11 wx => ∃ (ja jd : Nat) (A1 : Option Addr) (n1 c1 : Nat) (A2 : Option Addr) (n2 c2 : Nat), s9 = .pointer (some ⟨ja, 0, none⟩) ∧ s10 = .pointer (some ⟨jd, 0, none⟩) ∧ s11 = .bool true ∧ wx.cell? ⟨ja, 0, none⟩ = some (.int .i64 (wA w ⟨up, at'⟩)) ∧ wx.cell? ⟨ja, 1, none⟩ = some (.int .i64 (hA h ⟨up, at'⟩)) ∧ wx.cell? ⟨ja, 2, none⟩ = some (.slice A1 n1 c1) ∧ wx.cell? ⟨jd, 0, none⟩ = some (.int .i64 (wB w ⟨up, at'⟩)) ∧ wx.cell? ⟨jd, 1, none⟩ = some (.int .i64 (hB h ⟨up, at'⟩)) ∧ wx.cell? ⟨jd, 2, none⟩ = some (.slice A2 n2 c2) ∧ Rd wx A1 n1 5 (partA ⟨up, at'⟩ ps) patchC ∧ Rd wx A2 n2 5 (partB ⟨up, at'⟩ ps) patchC ∧ Below wr.heap.size wr wx)
        case first =>
          have hs2 : wr.heap.size ≤ wr.heap.size := Nat.le_refl _
          have hR2 := hRr
          have hB2 : Below wr.heap.size wr wr := Below.refl _ _
          clear hRr hCr
          have hjbw : jb < wr.heap.size := by have h1 := hjb.out; have h2 := block_lt_of_cell e0; exact h2
          have HB2 := Lib.hid hB2
          refine wp_region_held_drew (S := (fun v => v.cell? ⟨jb, 0, none⟩ = some (.int .i64 w) ∧ v.cell? ⟨jb, 1, none⟩ = some (.int .i64 h) ∧ v.cell? ⟨jb, 2, none⟩ = some (.slice A n c) ∧ v.cell? ⟨b, off + k * 2, none⟩ = some (.bool up) ∧ v.cell? ⟨b, off + k * 2 + 1, none⟩ = some (.int .i64 at'))) (by kernel_rfl) ⟨keep_drew e0, keep_drew e1, keep_drew e2, keep_drew q0, keep_drew q1⟩ (fun hHeld => ?_)
          have hB0 : Below wr.heap.size wr (World.drew wr) := hB2.drew
          have hR0 : Rd (World.drew wr) A n 5 ps patchC := hR2
          have hb0 : b < (World.drew wr).heap.size := hbW
          have hj0 : jb < (World.drew wr).heap.size := hjbw
          have hs0 : wr.heap.size ≤ (World.drew wr).heap.size := hs2
          obtain ⟨v0, hv0⟩ : ∃ v, Hid (World.drew wr = v) := ⟨_, rfl⟩
          rw [hv0.out] at hHeld hB0 hR0 hb0 hj0 hs0 ⊢
          clear e0 e1 e2 q0 q1 hR2 hB2 hbW hjbw hs2
          (refine take_yes (i := 0) (d := some 57) (v := ?_) rfl rfl (by kernel_rfl) (by kernel_rfl) (by kernel_rfl) (by rfl) (fun _ _ _ h => h) ?_ (by assumption) ?_; rotate_left; focus ((intro w' hSw; (try dsimp only at hSw); go_simp) <;> with_reducible rfl)); (try simp only [Act.put, List.setIfInBounds_toArray, List.set_cons_zero, List.set_cons_succ])
          (refine take_yes (i := 1) (d := some 58) (v := ?_) rfl rfl (by kernel_rfl) (by kernel_rfl) (by kernel_rfl) (by rfl) (fun _ _ _ h => h) ?_ (by assumption) ?_; rotate_left; focus ((intro w' hSw; (try dsimp only at hSw); go_simp) <;> with_reducible rfl)); (try simp only [Act.put, List.setIfInBounds_toArray, List.set_cons_zero, List.set_cons_succ])
          (refine take_yes (i := 2) (d := some 59) (v := ?_) rfl rfl (by kernel_rfl) (by kernel_rfl) (by kernel_rfl) (by rfl) (fun _ _ _ h => h) ?_ (by assumption) ?_; rotate_left; focus ((intro w' hSw; (try dsimp only at hSw); go_simp) <;> with_reducible rfl)); (try simp only [Act.put, List.setIfInBounds_toArray, List.set_cons_zero, List.set_cons_succ])
          (refine take_yes (i := 3) (d := some 60) (v := ?_) rfl rfl (by kernel_rfl) (by kernel_rfl) (by kernel_rfl) (by rfl) (fun _ _ _ h => h) ?_ (by assumption) ?_; rotate_left; focus ((intro w' hSw; (try dsimp only at hSw); go_simp) <;> with_reducible rfl)); (try simp only [Act.put, List.setIfInBounds_toArray, List.set_cons_zero, List.set_cons_succ])
          (refine take_yes (i := 4) (d := some 61) (v := ?_) rfl rfl (by kernel_rfl) (by kernel_rfl) (by kernel_rfl) (by rfl) (fun _ _ _ h => h) ?_ (by assumption) ?_; rotate_left; focus ((intro w' hSw; (try dsimp only at hSw); go_simp) <;> with_reducible rfl)); (try simp only [Act.put, List.setIfInBounds_toArray, List.set_cons_zero, List.set_cons_succ])
          refine wpAnyH_ready (rs := [5, 10, 11]) (by kernel_rfl) (by simp) ?_
          refine AllReadyH.cons (o := _) rfl (fun K hK => ?_) (AllReadyH.cons (o := _) rfl (fun K hK => ?_) (AllReadyH.cons (o := _) rfl (fun K hK => ?_) AllReadyH.nil))
          · go_simp
            refine (splitI_any w h A n c ps up at' _ hR0 hN HK.out).mono ?_
            rintro e v1 ⟨A1, n1, c1, A2, n2, c2, rfl, hPA, hPB, bb1⟩
            have hlo1 := bb1.size
            refine hK.out _ _ (keep5 hHeld bb1) (fun hHeld => ?_)
            clear hK K; (try simp only [Act.put, List.setIfInBounds_toArray, List.set_cons_zero, List.set_cons_succ])
            have R1 := hR0.below bb1
            have B1 := hB0.trans (bb1.mono hs0)
            have S1 := B1.size
            have Q1 : Hid (v0.heap.size ≤ v1.heap.size) := bb1.size
            clear bb1 hlo1
            (refine take_yes (i := 6) (d := some 56) (v := ?_) rfl rfl (by kernel_rfl) (by kernel_rfl) (by kernel_rfl) (by rfl) (fun _ _ _ h => h) ?_ (by assumption) ?_; rotate_left; focus ((intro w' hSw; (try dsimp only at hSw); go_simp) <;> with_reducible rfl)); (try simp only [Act.put, List.setIfInBounds_toArray, List.set_cons_zero, List.set_cons_succ])
            (refine take_yes (i := 7) (d := some 63) (v := ?_) rfl rfl (by kernel_rfl) (by kernel_rfl) (by kernel_rfl) (by rfl) (fun _ _ _ h => h) ?_ (by assumption) ?_; rotate_left; focus ((intro w' hSw; (try dsimp only at hSw); go_simp) <;> with_reducible rfl)); (try simp only [Act.put, List.setIfInBounds_toArray, List.set_cons_zero, List.set_cons_succ])
            (refine take_yes (i := 8) (d := some 64) (v := ?_) rfl rfl (by kernel_rfl) (by kernel_rfl) (by kernel_rfl) (by rfl) (fun _ _ _ h => h) ?_ (by assumption) ?_; rotate_left; focus ((intro w' hSw; (try dsimp only at hSw); go_simp) <;> with_reducible rfl)); (try simp only [Act.put, List.setIfInBounds_toArray, List.set_cons_zero, List.set_cons_succ])
            (refine take_yes (i := 9) (d := some 65) (v := ?_) rfl rfl (by kernel_rfl) (by kernel_rfl) (by kernel_rfl) (by rfl) (fun _ _ _ h => h) ?_ (by assumption) ?_; rotate_left; focus ((intro w' hSw; (try dsimp only at hSw); go_simp) <;> with_reducible rfl)); (try simp only [Act.put, List.setIfInBounds_toArray, List.set_cons_zero, List.set_cons_succ])
            refine wpAnyH_ready (rs := [10, 11]) (by kernel_rfl) (by simp) ?_
            refine AllReadyH.cons (o := _) rfl (fun K hK => ?_) (AllReadyH.cons (o := _) rfl (fun K hK => ?_) AllReadyH.nil)
            · go_simp
              obtain ⟨ja, hja⟩ : ∃ j, Hid (v1.heap.size = j) := ⟨_, rfl⟩
              obtain ⟨v2, hv2⟩ : ∃ v, Hid (v1.alloc (.cells #[.int .i64 0, .int .i64 0, .slice none 0 0] 30) = v) := ⟨_, rfl⟩
              have ra : v2.heap[ja]? = some (.cells #[.int .i64 0, .int .i64 0, .slice none 0 0] 30 (0, 0)) := by rw [← hv2.out, ← hja.out]; exact heap_alloc_new v1 _
              have bb2 : Below v1.heap.size v1 v2 := by rw [← hv2.out]; exact (Below.refl _ _).alloc (Nat.le_refl _) _
              have za : v1.heap.size = ja ∧ v2.heap.size = ja + 1 := by rw [← hv2.out, ← hja.out]; simp
              have Za := Lib.hid za
              rw [hv2.out, hja.out]
              refine hK.out _ _ (keep5 hHeld bb2) (fun hHeld => ?_)
              clear hK K; (try simp only [Act.put, List.setIfInBounds_toArray, List.set_cons_zero, List.set_cons_succ])
              have R2 := R1.below bb2
              have B2 := B1.trans (bb2.mono S1)
              have S2 := B2.size
              have hPA := hPA.below bb2
              have hPB := hPB.below bb2
              have Q2 : Hid (v1.heap.size ≤ v2.heap.size) := bb2.size
              clear bb2 za
              refine wpAnyH_ready (rs := [11]) (by kernel_rfl) (by simp) ?_
              refine AllReadyH.cons (o := _) rfl (fun K hK => ?_) AllReadyH.nil
              · go_simp
                obtain ⟨jd, hjd⟩ : ∃ j, Hid (v2.heap.size = j) := ⟨_, rfl⟩
                obtain ⟨v3, hv3⟩ : ∃ v, Hid (v2.alloc (.cells #[.int .i64 0, .int .i64 0, .slice none 0 0] 30) = v) := ⟨_, rfl⟩
                have rd : v3.heap[jd]? = some (.cells #[.int .i64 0, .int .i64 0, .slice none 0 0] 30 (0, 0)) := by rw [← hv3.out, ← hjd.out]; exact heap_alloc_new v2 _
                have bb3 : Below v2.heap.size v2 v3 := by rw [← hv3.out]; exact (Below.refl _ _).alloc (Nat.le_refl _) _
                have zd : v2.heap.size = jd ∧ v3.heap.size = jd + 1 := by rw [← hv3.out, ← hjd.out]; simp
                have Zd := Lib.hid zd
                rw [hv3.out, hjd.out]
                refine hK.out _ _ (keep5 hHeld bb3) (fun hHeld => ?_)
                clear hK K; (try simp only [Act.put, List.setIfInBounds_toArray, List.set_cons_zero, List.set_cons_succ])
                have R3 := R2.below bb3
                have B3 := B2.trans (bb3.mono S2)
                have S3 := B3.size
                have ra := (bb3.block ja (by have := Za.out; have := Q1.out; have := Q2.out; omega)).trans ra
                have hPA := hPA.below bb3
                have hPB := hPB.below bb3
                have Q3 : Hid (v2.heap.size ≤ v3.heap.size) := bb3.size
                clear bb3 zd
                have N : Hid (¬ jb = ja ∧ ¬ jb = jd ∧ ¬ b = ja ∧ ¬ b = jd ∧ ¬ ja = jd ∧ wr.heap.size ≤ ja ∧ wr.heap.size ≤ jd) := by have h1 := Za.out; have h2 := Zd.out; have h3 := Q1.out; have h4 := Q2.out; have h5 := Q3.out; refine ⟨?_, ?_, ?_, ?_, ?_, ?_, ?_⟩ <;> omega
                have NA : Hid ((ja < v0.heap.size ∨ v1.heap.size ≤ ja) ∧ (jd < v0.heap.size ∨ v1.heap.size ≤ jd)) := by have h1 := Za.out; have h2 := Zd.out; have h3 := Q1.out; have h4 := Q2.out; have h5 := Q3.out; refine ⟨?_, ?_⟩ <;> omega
                obtain ⟨n1_, n2_, n3_, n4_, n5_, n6_, n7_⟩ := N.out
                obtain ⟨na_, nd_⟩ := NA.out
                have hn1_ := hPA.len
                have hn2_ := hPB.len
                have HLA := Lib.hid hn1_
                have HLB := Lib.hid hn2_
                clear hn1_ hn2_
                have sa0 : v3.cell? ⟨ja, 0, none⟩ = some (.int .i64 0) := by rw [cell_of_row _ _ _ _ _ _ ra]; rfl
                have ga0 : v3.frozen? ⟨ja, 0, none⟩ = false := frozen_of_row _ _ _ _ _ ra
                have sa1 : v3.cell? ⟨ja, 1, none⟩ = some (.int .i64 0) := by rw [cell_of_row _ _ _ _ _ _ ra]; rfl
                have ga1 : v3.frozen? ⟨ja, 1, none⟩ = false := frozen_of_row _ _ _ _ _ ra
                have sa2 : v3.cell? ⟨ja, 2, none⟩ = some (.slice none 0 0) := by rw [cell_of_row _ _ _ _ _ _ ra]; rfl
                have ga2 : v3.frozen? ⟨ja, 2, none⟩ = false := frozen_of_row _ _ _ _ _ ra
                obtain ⟨v4, hv4⟩ : ∃ v, Hid ((((v3.setCell ⟨ja, 0, none⟩ (.int .i64 (wA w ⟨up, at'⟩))).setCell ⟨ja, 1, none⟩ (.int .i64 (hA h ⟨up, at'⟩))).setCell ⟨ja, 2, none⟩ (.slice A1 n1 c1)) = v) := ⟨_, rfl⟩
                refine wpAnyH_ready (rs := [12]) (by kernel_rfl) (by simp) ?_; refine AllReadyH.cons (o := _) rfl (fun K hK => ?_) AllReadyH.nil; go_simp
                rw [hv4.out]
                have ta := row_set (o := 2) (.slice A1 n1 c1) (row_set (o := 1) (.int .i64 (hA h ⟨up, at'⟩)) (row_set (o := 0) (.int .i64 (wA w ⟨up, at'⟩)) ra))
                rw [hv4.out] at ta
                have hfara : ∀ g, g ≠ ja → v4.heap[g]? = v3.heap[g]? := fun g hg => by rw [← hv4.out, row_far _ hg, row_far _ hg, row_far _ hg]
                refine hK.out _ _ ⟨cell_blk hHeld.1 (hfara jb n1_), cell_blk hHeld.2.1 (hfara jb n1_), cell_blk hHeld.2.2.1 (hfara jb n1_), cell_blk hHeld.2.2.2.1 (hfara b n3_), cell_blk hHeld.2.2.2.2 (hfara b n3_)⟩ (fun hHeld => ?_)
                clear hK K; (try simp only [Act.put, List.setIfInBounds_toArray, List.set_cons_zero, List.set_cons_succ])
                clear sa0 sa1 sa2 ga0 ga1 ga2
                have hPA := own_set (own_set (own_set hPA na_ 0 (.int .i64 (wA w ⟨up, at'⟩))) na_ 1 (.int .i64 (hA h ⟨up, at'⟩))) na_ 2 (.slice A1 n1 c1)
                have hPB := own_set (own_set (own_set hPB na_ 0 (.int .i64 (wA w ⟨up, at'⟩))) na_ 1 (.int .i64 (hA h ⟨up, at'⟩))) na_ 2 (.slice A1 n1 c1)
                rw [hv4.out] at hPA hPB
                have BB := below_set (below_set (below_set B3 n6_ (o := 0) (.int .i64 (wA w ⟨up, at'⟩))) n6_ (o := 1) (.int .i64 (hA h ⟨up, at'⟩))) n6_ (o := 2) (.slice A1 n1 c1)
                rw [hv4.out] at BB
                have rd := (hfara jd (fun e => n5_ e.symm)).trans rd
                have sd0 : v4.cell? ⟨jd, 0, none⟩ = some (.int .i64 0) := by rw [cell_of_row _ _ _ _ _ _ rd]; rfl
                have gd0 : v4.frozen? ⟨jd, 0, none⟩ = false := frozen_of_row _ _ _ _ _ rd
                have sd1 : v4.cell? ⟨jd, 1, none⟩ = some (.int .i64 0) := by rw [cell_of_row _ _ _ _ _ _ rd]; rfl
                have gd1 : v4.frozen? ⟨jd, 1, none⟩ = false := frozen_of_row _ _ _ _ _ rd
                have sd2 : v4.cell? ⟨jd, 2, none⟩ = some (.slice none 0 0) := by rw [cell_of_row _ _ _ _ _ _ rd]; rfl
                have gd2 : v4.frozen? ⟨jd, 2, none⟩ = false := frozen_of_row _ _ _ _ _ rd
                obtain ⟨v5, hv5⟩ : ∃ v, Hid ((((v4.setCell ⟨jd, 0, none⟩ (.int .i64 (wB w ⟨up, at'⟩))).setCell ⟨jd, 1, none⟩ (.int .i64 (hB h ⟨up, at'⟩))).setCell ⟨jd, 2, none⟩ (.slice A2 n2 c2)) = v) := ⟨_, rfl⟩
                refine wpAnyH_ready (rs := [13]) (by kernel_rfl) (by simp) ?_; refine AllReadyH.cons (o := _) rfl (fun K hK => ?_) AllReadyH.nil; go_simp
                rw [hv5.out]
                have td := row_set (o := 2) (.slice A2 n2 c2) (row_set (o := 1) (.int .i64 (hB h ⟨up, at'⟩)) (row_set (o := 0) (.int .i64 (wB w ⟨up, at'⟩)) rd))
                rw [hv5.out] at td
                have hfard : ∀ g, g ≠ jd → v5.heap[g]? = v4.heap[g]? := fun g hg => by rw [← hv5.out, row_far _ hg, row_far _ hg, row_far _ hg]
                refine hK.out _ _ ⟨cell_blk hHeld.1 (hfard jb n2_), cell_blk hHeld.2.1 (hfard jb n2_), cell_blk hHeld.2.2.1 (hfard jb n2_), cell_blk hHeld.2.2.2.1 (hfard b n4_), cell_blk hHeld.2.2.2.2 (hfard b n4_)⟩ (fun hHeld => ?_)
                clear hK K; (try simp only [Act.put, List.setIfInBounds_toArray, List.set_cons_zero, List.set_cons_succ])
                clear sd0 sd1 sd2 gd0 gd1 gd2
                have hPA := own_set (own_set (own_set hPA nd_ 0 (.int .i64 (wB w ⟨up, at'⟩))) nd_ 1 (.int .i64 (hB h ⟨up, at'⟩))) nd_ 2 (.slice A2 n2 c2)
                have hPB := own_set (own_set (own_set hPB nd_ 0 (.int .i64 (wB w ⟨up, at'⟩))) nd_ 1 (.int .i64 (hB h ⟨up, at'⟩))) nd_ 2 (.slice A2 n2 c2)
                rw [hv5.out] at hPA hPB
                have BB := below_set (below_set (below_set BB n7_ (o := 0) (.int .i64 (wB w ⟨up, at'⟩))) n7_ (o := 1) (.int .i64 (hB h ⟨up, at'⟩))) n7_ (o := 2) (.slice A2 n2 c2)
                rw [hv5.out] at BB
                have ra := (hfard ja n5_).trans ta
                have rd := td
                (refine take_yes (i := 14) (d := some 11) (v := ?_) rfl rfl (by kernel_rfl) (by kernel_rfl) (by kernel_rfl) (by rfl) (fun _ _ _ h => h) ?_ (by assumption) ?_; rotate_left; focus ((intro w' hSw; (try dsimp only at hSw); go_simp) <;> with_reducible rfl)); (try simp only [Act.put, List.setIfInBounds_toArray, List.set_cons_zero, List.set_cons_succ])
                refine wpAnyH_done (by kernel_rfl) ?_ _
                have ya0 : v5.cell? ⟨ja, 0, none⟩ = some (.int .i64 (wA w ⟨up, at'⟩)) := by rw [cell_of_row _ _ _ _ _ _ ra]; rfl
                have ya1 : v5.cell? ⟨ja, 1, none⟩ = some (.int .i64 (hA h ⟨up, at'⟩)) := by rw [cell_of_row _ _ _ _ _ _ ra]; rfl
                have ya2 : v5.cell? ⟨ja, 2, none⟩ = some (.slice A1 n1 c1) := by rw [cell_of_row _ _ _ _ _ _ ra]; rfl
                have yd0 : v5.cell? ⟨jd, 0, none⟩ = some (.int .i64 (wB w ⟨up, at'⟩)) := by rw [cell_of_row _ _ _ _ _ _ rd]; rfl
                have yd1 : v5.cell? ⟨jd, 1, none⟩ = some (.int .i64 (hB h ⟨up, at'⟩)) := by rw [cell_of_row _ _ _ _ _ _ rd]; rfl
                have yd2 : v5.cell? ⟨jd, 2, none⟩ = some (.slice A2 n2 c2) := by rw [cell_of_row _ _ _ _ _ _ rd]; rfl
                have hn1 : n1 ≤ 1048576 := by have h1 := HLA.out; have h2 := pA_len ⟨up, at'⟩ ps; have h3 := HLEN.out; omega
                have hn2 : n2 ≤ 1048576 := by have h1 := HLB.out; have h2 := pB_len ⟨up, at'⟩ ps; have h3 := HLEN.out; omega
                have hPA := hPA.rd
                have hPB := hPB.rd
                have BS := BB.size
                clear ra rd ta td hfara hfard hHeld n1_ n2_ n3_ n4_ n5_ n6_ n7_ na_ nd_
                go_wp2_with fail
                go_meet
                exact ⟨ja, jd, A1, n1, c1, A2, n2, c2, rfl, rfl, rfl, ya0, ya1, ya2, yd0, yd1, yd2, hPA, hPB, BB⟩
            · go_simp
              obtain ⟨jd, hjd⟩ : ∃ j, Hid (v1.heap.size = j) := ⟨_, rfl⟩
              obtain ⟨v2, hv2⟩ : ∃ v, Hid (v1.alloc (.cells #[.int .i64 0, .int .i64 0, .slice none 0 0] 30) = v) := ⟨_, rfl⟩
              have rd : v2.heap[jd]? = some (.cells #[.int .i64 0, .int .i64 0, .slice none 0 0] 30 (0, 0)) := by rw [← hv2.out, ← hjd.out]; exact heap_alloc_new v1 _
              have bb2 : Below v1.heap.size v1 v2 := by rw [← hv2.out]; exact (Below.refl _ _).alloc (Nat.le_refl _) _
              have zd : v1.heap.size = jd ∧ v2.heap.size = jd + 1 := by rw [← hv2.out, ← hjd.out]; simp
              have Zd := Lib.hid zd
              rw [hv2.out, hjd.out]
              refine hK.out _ _ (keep5 hHeld bb2) (fun hHeld => ?_)
              clear hK K; (try simp only [Act.put, List.setIfInBounds_toArray, List.set_cons_zero, List.set_cons_succ])
              have R2 := R1.below bb2
              have B2 := B1.trans (bb2.mono S1)
              have S2 := B2.size
              have hPA := hPA.below bb2
              have hPB := hPB.below bb2
              have Q2 : Hid (v1.heap.size ≤ v2.heap.size) := bb2.size
              clear bb2 zd
              refine wpAnyH_ready (rs := [10]) (by kernel_rfl) (by simp) ?_
              refine AllReadyH.cons (o := _) rfl (fun K hK => ?_) AllReadyH.nil
              · go_simp
                obtain ⟨ja, hja⟩ : ∃ j, Hid (v2.heap.size = j) := ⟨_, rfl⟩
                obtain ⟨v3, hv3⟩ : ∃ v, Hid (v2.alloc (.cells #[.int .i64 0, .int .i64 0, .slice none 0 0] 30) = v) := ⟨_, rfl⟩
                have ra : v3.heap[ja]? = some (.cells #[.int .i64 0, .int .i64 0, .slice none 0 0] 30 (0, 0)) := by rw [← hv3.out, ← hja.out]; exact heap_alloc_new v2 _
                have bb3 : Below v2.heap.size v2 v3 := by rw [← hv3.out]; exact (Below.refl _ _).alloc (Nat.le_refl _) _
                have za : v2.heap.size = ja ∧ v3.heap.size = ja + 1 := by rw [← hv3.out, ← hja.out]; simp
                have Za := Lib.hid za
                rw [hv3.out, hja.out]
                refine hK.out _ _ (keep5 hHeld bb3) (fun hHeld => ?_)
                clear hK K; (try simp only [Act.put, List.setIfInBounds_toArray, List.set_cons_zero, List.set_cons_succ])
                have R3 := R2.below bb3
                have B3 := B2.trans (bb3.mono S2)
                have S3 := B3.size
                have rd := (bb3.block jd (by have := Zd.out; have := Q1.out; have := Q2.out; omega)).trans rd
                have hPA := hPA.below bb3
                have hPB := hPB.below bb3
                have Q3 : Hid (v2.heap.size ≤ v3.heap.size) := bb3.size
                clear bb3 za
                have N : Hid (¬ jb = ja ∧ ¬ jb = jd ∧ ¬ b = ja ∧ ¬ b = jd ∧ ¬ ja = jd ∧ wr.heap.size ≤ ja ∧ wr.heap.size ≤ jd) := by have h1 := Za.out; have h2 := Zd.out; have h3 := Q1.out; have h4 := Q2.out; have h5 := Q3.out; refine ⟨?_, ?_, ?_, ?_, ?_, ?_, ?_⟩ <;> omega
                have NA : Hid ((ja < v0.heap.size ∨ v1.heap.size ≤ ja) ∧ (jd < v0.heap.size ∨ v1.heap.size ≤ jd)) := by have h1 := Za.out; have h2 := Zd.out; have h3 := Q1.out; have h4 := Q2.out; have h5 := Q3.out; refine ⟨?_, ?_⟩ <;> omega
                obtain ⟨n1_, n2_, n3_, n4_, n5_, n6_, n7_⟩ := N.out
                obtain ⟨na_, nd_⟩ := NA.out
                have hn1_ := hPA.len
                have hn2_ := hPB.len
                have HLA := Lib.hid hn1_
                have HLB := Lib.hid hn2_
                clear hn1_ hn2_
                have sa0 : v3.cell? ⟨ja, 0, none⟩ = some (.int .i64 0) := by rw [cell_of_row _ _ _ _ _ _ ra]; rfl
                have ga0 : v3.frozen? ⟨ja, 0, none⟩ = false := frozen_of_row _ _ _ _ _ ra
                have sa1 : v3.cell? ⟨ja, 1, none⟩ = some (.int .i64 0) := by rw [cell_of_row _ _ _ _ _ _ ra]; rfl
                have ga1 : v3.frozen? ⟨ja, 1, none⟩ = false := frozen_of_row _ _ _ _ _ ra
                have sa2 : v3.cell? ⟨ja, 2, none⟩ = some (.slice none 0 0) := by rw [cell_of_row _ _ _ _ _ _ ra]; rfl
                have ga2 : v3.frozen? ⟨ja, 2, none⟩ = false := frozen_of_row _ _ _ _ _ ra
                obtain ⟨v4, hv4⟩ : ∃ v, Hid ((((v3.setCell ⟨ja, 0, none⟩ (.int .i64 (wA w ⟨up, at'⟩))).setCell ⟨ja, 1, none⟩ (.int .i64 (hA h ⟨up, at'⟩))).setCell ⟨ja, 2, none⟩ (.slice A1 n1 c1)) = v) := ⟨_, rfl⟩
                refine wpAnyH_ready (rs := [12]) (by kernel_rfl) (by simp) ?_; refine AllReadyH.cons (o := _) rfl (fun K hK => ?_) AllReadyH.nil; go_simp
                rw [hv4.out]
                have ta := row_set (o := 2) (.slice A1 n1 c1) (row_set (o := 1) (.int .i64 (hA h ⟨up, at'⟩)) (row_set (o := 0) (.int .i64 (wA w ⟨up, at'⟩)) ra))
                rw [hv4.out] at ta
                have hfara : ∀ g, g ≠ ja → v4.heap[g]? = v3.heap[g]? := fun g hg => by rw [← hv4.out, row_far _ hg, row_far _ hg, row_far _ hg]
                refine hK.out _ _ ⟨cell_blk hHeld.1 (hfara jb n1_), cell_blk hHeld.2.1 (hfara jb n1_), cell_blk hHeld.2.2.1 (hfara jb n1_), cell_blk hHeld.2.2.2.1 (hfara b n3_), cell_blk hHeld.2.2.2.2 (hfara b n3_)⟩ (fun hHeld => ?_)
                clear hK K; (try simp only [Act.put, List.setIfInBounds_toArray, List.set_cons_zero, List.set_cons_succ])
                clear sa0 sa1 sa2 ga0 ga1 ga2
                have hPA := own_set (own_set (own_set hPA na_ 0 (.int .i64 (wA w ⟨up, at'⟩))) na_ 1 (.int .i64 (hA h ⟨up, at'⟩))) na_ 2 (.slice A1 n1 c1)
                have hPB := own_set (own_set (own_set hPB na_ 0 (.int .i64 (wA w ⟨up, at'⟩))) na_ 1 (.int .i64 (hA h ⟨up, at'⟩))) na_ 2 (.slice A1 n1 c1)
                rw [hv4.out] at hPA hPB
                have BB := below_set (below_set (below_set B3 n6_ (o := 0) (.int .i64 (wA w ⟨up, at'⟩))) n6_ (o := 1) (.int .i64 (hA h ⟨up, at'⟩))) n6_ (o := 2) (.slice A1 n1 c1)
                rw [hv4.out] at BB
                have rd := (hfara jd (fun e => n5_ e.symm)).trans rd
                have sd0 : v4.cell? ⟨jd, 0, none⟩ = some (.int .i64 0) := by rw [cell_of_row _ _ _ _ _ _ rd]; rfl
                have gd0 : v4.frozen? ⟨jd, 0, none⟩ = false := frozen_of_row _ _ _ _ _ rd
                have sd1 : v4.cell? ⟨jd, 1, none⟩ = some (.int .i64 0) := by rw [cell_of_row _ _ _ _ _ _ rd]; rfl
                have gd1 : v4.frozen? ⟨jd, 1, none⟩ = false := frozen_of_row _ _ _ _ _ rd
                have sd2 : v4.cell? ⟨jd, 2, none⟩ = some (.slice none 0 0) := by rw [cell_of_row _ _ _ _ _ _ rd]; rfl
                have gd2 : v4.frozen? ⟨jd, 2, none⟩ = false := frozen_of_row _ _ _ _ _ rd
                obtain ⟨v5, hv5⟩ : ∃ v, Hid ((((v4.setCell ⟨jd, 0, none⟩ (.int .i64 (wB w ⟨up, at'⟩))).setCell ⟨jd, 1, none⟩ (.int .i64 (hB h ⟨up, at'⟩))).setCell ⟨jd, 2, none⟩ (.slice A2 n2 c2)) = v) := ⟨_, rfl⟩
                refine wpAnyH_ready (rs := [13]) (by kernel_rfl) (by simp) ?_; refine AllReadyH.cons (o := _) rfl (fun K hK => ?_) AllReadyH.nil; go_simp
                rw [hv5.out]
                have td := row_set (o := 2) (.slice A2 n2 c2) (row_set (o := 1) (.int .i64 (hB h ⟨up, at'⟩)) (row_set (o := 0) (.int .i64 (wB w ⟨up, at'⟩)) rd))
                rw [hv5.out] at td
                have hfard : ∀ g, g ≠ jd → v5.heap[g]? = v4.heap[g]? := fun g hg => by rw [← hv5.out, row_far _ hg, row_far _ hg, row_far _ hg]
                refine hK.out _ _ ⟨cell_blk hHeld.1 (hfard jb n2_), cell_blk hHeld.2.1 (hfard jb n2_), cell_blk hHeld.2.2.1 (hfard jb n2_), cell_blk hHeld.2.2.2.1 (hfard b n4_), cell_blk hHeld.2.2.2.2 (hfard b n4_)⟩ (fun hHeld => ?_)
                clear hK K; (try simp only [Act.put, List.setIfInBounds_toArray, List.set_cons_zero, List.set_cons_succ])
                clear sd0 sd1 sd2 gd0 gd1 gd2
                have hPA := own_set (own_set (own_set hPA nd_ 0 (.int .i64 (wB w ⟨up, at'⟩))) nd_ 1 (.int .i64 (hB h ⟨up, at'⟩))) nd_ 2 (.slice A2 n2 c2)
                have hPB := own_set (own_set (own_set hPB nd_ 0 (.int .i64 (wB w ⟨up, at'⟩))) nd_ 1 (.int .i64 (hB h ⟨up, at'⟩))) nd_ 2 (.slice A2 n2 c2)
                rw [hv5.out] at hPA hPB
                have BB := below_set (below_set (below_set BB n7_ (o := 0) (.int .i64 (wB w ⟨up, at'⟩))) n7_ (o := 1) (.int .i64 (hB h ⟨up, at'⟩))) n7_ (o := 2) (.slice A2 n2 c2)
                rw [hv5.out] at BB
                have ra := (hfard ja n5_).trans ta
                have rd := td
                (refine take_yes (i := 14) (d := some 11) (v := ?_) rfl rfl (by kernel_rfl) (by kernel_rfl) (by kernel_rfl) (by rfl) (fun _ _ _ h => h) ?_ (by assumption) ?_; rotate_left; focus ((intro w' hSw; (try dsimp only at hSw); go_simp) <;> with_reducible rfl)); (try simp only [Act.put, List.setIfInBounds_toArray, List.set_cons_zero, List.set_cons_succ])
                refine wpAnyH_done (by kernel_rfl) ?_ _
                have ya0 : v5.cell? ⟨ja, 0, none⟩ = some (.int .i64 (wA w ⟨up, at'⟩)) := by rw [cell_of_row _ _ _ _ _ _ ra]; rfl
                have ya1 : v5.cell? ⟨ja, 1, none⟩ = some (.int .i64 (hA h ⟨up, at'⟩)) := by rw [cell_of_row _ _ _ _ _ _ ra]; rfl
                have ya2 : v5.cell? ⟨ja, 2, none⟩ = some (.slice A1 n1 c1) := by rw [cell_of_row _ _ _ _ _ _ ra]; rfl
                have yd0 : v5.cell? ⟨jd, 0, none⟩ = some (.int .i64 (wB w ⟨up, at'⟩)) := by rw [cell_of_row _ _ _ _ _ _ rd]; rfl
                have yd1 : v5.cell? ⟨jd, 1, none⟩ = some (.int .i64 (hB h ⟨up, at'⟩)) := by rw [cell_of_row _ _ _ _ _ _ rd]; rfl
                have yd2 : v5.cell? ⟨jd, 2, none⟩ = some (.slice A2 n2 c2) := by rw [cell_of_row _ _ _ _ _ _ rd]; rfl
                have hn1 : n1 ≤ 1048576 := by have h1 := HLA.out; have h2 := pA_len ⟨up, at'⟩ ps; have h3 := HLEN.out; omega
                have hn2 : n2 ≤ 1048576 := by have h1 := HLB.out; have h2 := pB_len ⟨up, at'⟩ ps; have h3 := HLEN.out; omega
                have hPA := hPA.rd
                have hPB := hPB.rd
                have BS := BB.size
                clear ra rd ta td hfara hfard hHeld n1_ n2_ n3_ n4_ n5_ n6_ n7_ na_ nd_
                go_wp2_with fail
                go_meet
                exact ⟨ja, jd, A1, n1, c1, A2, n2, c2, rfl, rfl, rfl, ya0, ya1, ya2, yd0, yd1, yd2, hPA, hPB, BB⟩
          · go_simp
            obtain ⟨ja, hja⟩ : ∃ j, Hid (v0.heap.size = j) := ⟨_, rfl⟩
            obtain ⟨v1, hv1⟩ : ∃ v, Hid (v0.alloc (.cells #[.int .i64 0, .int .i64 0, .slice none 0 0] 30) = v) := ⟨_, rfl⟩
            have ra : v1.heap[ja]? = some (.cells #[.int .i64 0, .int .i64 0, .slice none 0 0] 30 (0, 0)) := by rw [← hv1.out, ← hja.out]; exact heap_alloc_new v0 _
            have bb1 : Below v0.heap.size v0 v1 := by rw [← hv1.out]; exact (Below.refl _ _).alloc (Nat.le_refl _) _
            have za : v0.heap.size = ja ∧ v1.heap.size = ja + 1 := by rw [← hv1.out, ← hja.out]; simp
            have Za := Lib.hid za
            rw [hv1.out, hja.out]
            refine hK.out _ _ (keep5 hHeld bb1) (fun hHeld => ?_)
            clear hK K; (try simp only [Act.put, List.setIfInBounds_toArray, List.set_cons_zero, List.set_cons_succ])
            have R1 := hR0.below bb1
            have B1 := hB0.trans (bb1.mono hs0)
            have S1 := B1.size
            have Q1 : Hid (v0.heap.size ≤ v1.heap.size) := bb1.size
            clear bb1 za
            refine wpAnyH_ready (rs := [5, 11]) (by kernel_rfl) (by simp) ?_
            refine AllReadyH.cons (o := _) rfl (fun K hK => ?_) (AllReadyH.cons (o := _) rfl (fun K hK => ?_) AllReadyH.nil)
            · go_simp
              refine (splitI_any w h A n c ps up at' _ R1 hN HK.out).mono ?_
              rintro e v2 ⟨A1, n1, c1, A2, n2, c2, rfl, hPA, hPB, bb2⟩
              have hlo2 := bb2.size
              refine hK.out _ _ (keep5 hHeld bb2) (fun hHeld => ?_)
              clear hK K; (try simp only [Act.put, List.setIfInBounds_toArray, List.set_cons_zero, List.set_cons_succ])
              have R2 := R1.below bb2
              have B2 := B1.trans (bb2.mono S1)
              have S2 := B2.size
              have ra := (bb2.block ja (by have := Za.out; have := Q1.out; omega)).trans ra
              have Q2 : Hid (v1.heap.size ≤ v2.heap.size) := bb2.size
              clear bb2 hlo2
              (refine take_yes (i := 6) (d := some 56) (v := ?_) rfl rfl (by kernel_rfl) (by kernel_rfl) (by kernel_rfl) (by rfl) (fun _ _ _ h => h) ?_ (by assumption) ?_; rotate_left; focus ((intro w' hSw; (try dsimp only at hSw); go_simp) <;> with_reducible rfl)); (try simp only [Act.put, List.setIfInBounds_toArray, List.set_cons_zero, List.set_cons_succ])
              (refine take_yes (i := 7) (d := some 63) (v := ?_) rfl rfl (by kernel_rfl) (by kernel_rfl) (by kernel_rfl) (by rfl) (fun _ _ _ h => h) ?_ (by assumption) ?_; rotate_left; focus ((intro w' hSw; (try dsimp only at hSw); go_simp) <;> with_reducible rfl)); (try simp only [Act.put, List.setIfInBounds_toArray, List.set_cons_zero, List.set_cons_succ])
              (refine take_yes (i := 8) (d := some 64) (v := ?_) rfl rfl (by kernel_rfl) (by kernel_rfl) (by kernel_rfl) (by rfl) (fun _ _ _ h => h) ?_ (by assumption) ?_; rotate_left; focus ((intro w' hSw; (try dsimp only at hSw); go_simp) <;> with_reducible rfl)); (try simp only [Act.put, List.setIfInBounds_toArray, List.set_cons_zero, List.set_cons_succ])
              (refine take_yes (i := 9) (d := some 65) (v := ?_) rfl rfl (by kernel_rfl) (by kernel_rfl) (by kernel_rfl) (by rfl) (fun _ _ _ h => h) ?_ (by assumption) ?_; rotate_left; focus ((intro w' hSw; (try dsimp only at hSw); go_simp) <;> with_reducible rfl)); (try simp only [Act.put, List.setIfInBounds_toArray, List.set_cons_zero, List.set_cons_succ])
              refine wpAnyH_ready (rs := [11]) (by kernel_rfl) (by simp) ?_
              refine AllReadyH.cons (o := _) rfl (fun K hK => ?_) AllReadyH.nil
              · go_simp
                obtain ⟨jd, hjd⟩ : ∃ j, Hid (v2.heap.size = j) := ⟨_, rfl⟩
                obtain ⟨v3, hv3⟩ : ∃ v, Hid (v2.alloc (.cells #[.int .i64 0, .int .i64 0, .slice none 0 0] 30) = v) := ⟨_, rfl⟩
                have rd : v3.heap[jd]? = some (.cells #[.int .i64 0, .int .i64 0, .slice none 0 0] 30 (0, 0)) := by rw [← hv3.out, ← hjd.out]; exact heap_alloc_new v2 _
                have bb3 : Below v2.heap.size v2 v3 := by rw [← hv3.out]; exact (Below.refl _ _).alloc (Nat.le_refl _) _
                have zd : v2.heap.size = jd ∧ v3.heap.size = jd + 1 := by rw [← hv3.out, ← hjd.out]; simp
                have Zd := Lib.hid zd
                rw [hv3.out, hjd.out]
                refine hK.out _ _ (keep5 hHeld bb3) (fun hHeld => ?_)
                clear hK K; (try simp only [Act.put, List.setIfInBounds_toArray, List.set_cons_zero, List.set_cons_succ])
                have R3 := R2.below bb3
                have B3 := B2.trans (bb3.mono S2)
                have S3 := B3.size
                have ra := (bb3.block ja (by have := Za.out; have := Q1.out; have := Q2.out; omega)).trans ra
                have hPA := hPA.below bb3
                have hPB := hPB.below bb3
                have Q3 : Hid (v2.heap.size ≤ v3.heap.size) := bb3.size
                clear bb3 zd
                have N : Hid (¬ jb = ja ∧ ¬ jb = jd ∧ ¬ b = ja ∧ ¬ b = jd ∧ ¬ ja = jd ∧ wr.heap.size ≤ ja ∧ wr.heap.size ≤ jd) := by have h1 := Za.out; have h2 := Zd.out; have h3 := Q1.out; have h4 := Q2.out; have h5 := Q3.out; refine ⟨?_, ?_, ?_, ?_, ?_, ?_, ?_⟩ <;> omega
                have NA : Hid ((ja < v1.heap.size ∨ v2.heap.size ≤ ja) ∧ (jd < v1.heap.size ∨ v2.heap.size ≤ jd)) := by have h1 := Za.out; have h2 := Zd.out; have h3 := Q1.out; have h4 := Q2.out; have h5 := Q3.out; refine ⟨?_, ?_⟩ <;> omega
                obtain ⟨n1_, n2_, n3_, n4_, n5_, n6_, n7_⟩ := N.out
                obtain ⟨na_, nd_⟩ := NA.out
                have hn1_ := hPA.len
                have hn2_ := hPB.len
                have HLA := Lib.hid hn1_
                have HLB := Lib.hid hn2_
                clear hn1_ hn2_
                have sa0 : v3.cell? ⟨ja, 0, none⟩ = some (.int .i64 0) := by rw [cell_of_row _ _ _ _ _ _ ra]; rfl
                have ga0 : v3.frozen? ⟨ja, 0, none⟩ = false := frozen_of_row _ _ _ _ _ ra
                have sa1 : v3.cell? ⟨ja, 1, none⟩ = some (.int .i64 0) := by rw [cell_of_row _ _ _ _ _ _ ra]; rfl
                have ga1 : v3.frozen? ⟨ja, 1, none⟩ = false := frozen_of_row _ _ _ _ _ ra
                have sa2 : v3.cell? ⟨ja, 2, none⟩ = some (.slice none 0 0) := by rw [cell_of_row _ _ _ _ _ _ ra]; rfl
                have ga2 : v3.frozen? ⟨ja, 2, none⟩ = false := frozen_of_row _ _ _ _ _ ra
                obtain ⟨v4, hv4⟩ : ∃ v, Hid ((((v3.setCell ⟨ja, 0, none⟩ (.int .i64 (wA w ⟨up, at'⟩))).setCell ⟨ja, 1, none⟩ (.int .i64 (hA h ⟨up, at'⟩))).setCell ⟨ja, 2, none⟩ (.slice A1 n1 c1)) = v) := ⟨_, rfl⟩
                refine wpAnyH_ready (rs := [12]) (by kernel_rfl) (by simp) ?_; refine AllReadyH.cons (o := _) rfl (fun K hK => ?_) AllReadyH.nil; go_simp
                rw [hv4.out]
                have ta := row_set (o := 2) (.slice A1 n1 c1) (row_set (o := 1) (.int .i64 (hA h ⟨up, at'⟩)) (row_set (o := 0) (.int .i64 (wA w ⟨up, at'⟩)) ra))
                rw [hv4.out] at ta
                have hfara : ∀ g, g ≠ ja → v4.heap[g]? = v3.heap[g]? := fun g hg => by rw [← hv4.out, row_far _ hg, row_far _ hg, row_far _ hg]
                refine hK.out _ _ ⟨cell_blk hHeld.1 (hfara jb n1_), cell_blk hHeld.2.1 (hfara jb n1_), cell_blk hHeld.2.2.1 (hfara jb n1_), cell_blk hHeld.2.2.2.1 (hfara b n3_), cell_blk hHeld.2.2.2.2 (hfara b n3_)⟩ (fun hHeld => ?_)
                clear hK K; (try simp only [Act.put, List.setIfInBounds_toArray, List.set_cons_zero, List.set_cons_succ])
                clear sa0 sa1 sa2 ga0 ga1 ga2
                have hPA := own_set (own_set (own_set hPA na_ 0 (.int .i64 (wA w ⟨up, at'⟩))) na_ 1 (.int .i64 (hA h ⟨up, at'⟩))) na_ 2 (.slice A1 n1 c1)
                have hPB := own_set (own_set (own_set hPB na_ 0 (.int .i64 (wA w ⟨up, at'⟩))) na_ 1 (.int .i64 (hA h ⟨up, at'⟩))) na_ 2 (.slice A1 n1 c1)
                rw [hv4.out] at hPA hPB
                have BB := below_set (below_set (below_set B3 n6_ (o := 0) (.int .i64 (wA w ⟨up, at'⟩))) n6_ (o := 1) (.int .i64 (hA h ⟨up, at'⟩))) n6_ (o := 2) (.slice A1 n1 c1)
                rw [hv4.out] at BB
                have rd := (hfara jd (fun e => n5_ e.symm)).trans rd
                have sd0 : v4.cell? ⟨jd, 0, none⟩ = some (.int .i64 0) := by rw [cell_of_row _ _ _ _ _ _ rd]; rfl
                have gd0 : v4.frozen? ⟨jd, 0, none⟩ = false := frozen_of_row _ _ _ _ _ rd
                have sd1 : v4.cell? ⟨jd, 1, none⟩ = some (.int .i64 0) := by rw [cell_of_row _ _ _ _ _ _ rd]; rfl
                have gd1 : v4.frozen? ⟨jd, 1, none⟩ = false := frozen_of_row _ _ _ _ _ rd
                have sd2 : v4.cell? ⟨jd, 2, none⟩ = some (.slice none 0 0) := by rw [cell_of_row _ _ _ _ _ _ rd]; rfl
                have gd2 : v4.frozen? ⟨jd, 2, none⟩ = false := frozen_of_row _ _ _ _ _ rd
                obtain ⟨v5, hv5⟩ : ∃ v, Hid ((((v4.setCell ⟨jd, 0, none⟩ (.int .i64 (wB w ⟨up, at'⟩))).setCell ⟨jd, 1, none⟩ (.int .i64 (hB h ⟨up, at'⟩))).setCell ⟨jd, 2, none⟩ (.slice A2 n2 c2)) = v) := ⟨_, rfl⟩
                refine wpAnyH_ready (rs := [13]) (by kernel_rfl) (by simp) ?_; refine AllReadyH.cons (o := _) rfl (fun K hK => ?_) AllReadyH.nil; go_simp
                rw [hv5.out]
                have td := row_set (o := 2) (.slice A2 n2 c2) (row_set (o := 1) (.int .i64 (hB h ⟨up, at'⟩)) (row_set (o := 0) (.int .i64 (wB w ⟨up, at'⟩)) rd))
                rw [hv5.out] at td
                have hfard : ∀ g, g ≠ jd → v5.heap[g]? = v4.heap[g]? := fun g hg => by rw [← hv5.out, row_far _ hg, row_far _ hg, row_far _ hg]
                refine hK.out _ _ ⟨cell_blk hHeld.1 (hfard jb n2_), cell_blk hHeld.2.1 (hfard jb n2_), cell_blk hHeld.2.2.1 (hfard jb n2_), cell_blk hHeld.2.2.2.1 (hfard b n4_), cell_blk hHeld.2.2.2.2 (hfard b n4_)⟩ (fun hHeld => ?_)
                clear hK K; (try simp only [Act.put, List.setIfInBounds_toArray, List.set_cons_zero, List.set_cons_succ])
                clear sd0 sd1 sd2 gd0 gd1 gd2
                have hPA := own_set (own_set (own_set hPA nd_ 0 (.int .i64 (wB w ⟨up, at'⟩))) nd_ 1 (.int .i64 (hB h ⟨up, at'⟩))) nd_ 2 (.slice A2 n2 c2)
                have hPB := own_set (own_set (own_set hPB nd_ 0 (.int .i64 (wB w ⟨up, at'⟩))) nd_ 1 (.int .i64 (hB h ⟨up, at'⟩))) nd_ 2 (.slice A2 n2 c2)
                rw [hv5.out] at hPA hPB
                have BB := below_set (below_set (below_set BB n7_ (o := 0) (.int .i64 (wB w ⟨up, at'⟩))) n7_ (o := 1) (.int .i64 (hB h ⟨up, at'⟩))) n7_ (o := 2) (.slice A2 n2 c2)
                rw [hv5.out] at BB
                have ra := (hfard ja n5_).trans ta
                have rd := td
                (refine take_yes (i := 14) (d := some 11) (v := ?_) rfl rfl (by kernel_rfl) (by kernel_rfl) (by kernel_rfl) (by rfl) (fun _ _ _ h => h) ?_ (by assumption) ?_; rotate_left; focus ((intro w' hSw; (try dsimp only at hSw); go_simp) <;> with_reducible rfl)); (try simp only [Act.put, List.setIfInBounds_toArray, List.set_cons_zero, List.set_cons_succ])
                refine wpAnyH_done (by kernel_rfl) ?_ _
                have ya0 : v5.cell? ⟨ja, 0, none⟩ = some (.int .i64 (wA w ⟨up, at'⟩)) := by rw [cell_of_row _ _ _ _ _ _ ra]; rfl
                have ya1 : v5.cell? ⟨ja, 1, none⟩ = some (.int .i64 (hA h ⟨up, at'⟩)) := by rw [cell_of_row _ _ _ _ _ _ ra]; rfl
                have ya2 : v5.cell? ⟨ja, 2, none⟩ = some (.slice A1 n1 c1) := by rw [cell_of_row _ _ _ _ _ _ ra]; rfl
                have yd0 : v5.cell? ⟨jd, 0, none⟩ = some (.int .i64 (wB w ⟨up, at'⟩)) := by rw [cell_of_row _ _ _ _ _ _ rd]; rfl
                have yd1 : v5.cell? ⟨jd, 1, none⟩ = some (.int .i64 (hB h ⟨up, at'⟩)) := by rw [cell_of_row _ _ _ _ _ _ rd]; rfl
                have yd2 : v5.cell? ⟨jd, 2, none⟩ = some (.slice A2 n2 c2) := by rw [cell_of_row _ _ _ _ _ _ rd]; rfl
                have hn1 : n1 ≤ 1048576 := by have h1 := HLA.out; have h2 := pA_len ⟨up, at'⟩ ps; have h3 := HLEN.out; omega
                have hn2 : n2 ≤ 1048576 := by have h1 := HLB.out; have h2 := pB_len ⟨up, at'⟩ ps; have h3 := HLEN.out; omega
                have hPA := hPA.rd
                have hPB := hPB.rd
                have BS := BB.size
                clear ra rd ta td hfara hfard hHeld n1_ n2_ n3_ n4_ n5_ n6_ n7_ na_ nd_
                go_wp2_with fail
                go_meet
                exact ⟨ja, jd, A1, n1, c1, A2, n2, c2, rfl, rfl, rfl, ya0, ya1, ya2, yd0, yd1, yd2, hPA, hPB, BB⟩
            · go_simp
              obtain ⟨jd, hjd⟩ : ∃ j, Hid (v1.heap.size = j) := ⟨_, rfl⟩
              obtain ⟨v2, hv2⟩ : ∃ v, Hid (v1.alloc (.cells #[.int .i64 0, .int .i64 0, .slice none 0 0] 30) = v) := ⟨_, rfl⟩
              have rd : v2.heap[jd]? = some (.cells #[.int .i64 0, .int .i64 0, .slice none 0 0] 30 (0, 0)) := by rw [← hv2.out, ← hjd.out]; exact heap_alloc_new v1 _
              have bb2 : Below v1.heap.size v1 v2 := by rw [← hv2.out]; exact (Below.refl _ _).alloc (Nat.le_refl _) _
              have zd : v1.heap.size = jd ∧ v2.heap.size = jd + 1 := by rw [← hv2.out, ← hjd.out]; simp
              have Zd := Lib.hid zd
              rw [hv2.out, hjd.out]
              refine hK.out _ _ (keep5 hHeld bb2) (fun hHeld => ?_)
              clear hK K; (try simp only [Act.put, List.setIfInBounds_toArray, List.set_cons_zero, List.set_cons_succ])
              have R2 := R1.below bb2
              have B2 := B1.trans (bb2.mono S1)
              have S2 := B2.size
              have ra := (bb2.block ja (by have := Za.out; have := Q1.out; omega)).trans ra
              have Q2 : Hid (v1.heap.size ≤ v2.heap.size) := bb2.size
              clear bb2 zd
              refine wpAnyH_ready (rs := [5]) (by kernel_rfl) (by simp) ?_
              refine AllReadyH.cons (o := _) rfl (fun K hK => ?_) AllReadyH.nil
              · go_simp
                refine (splitI_any w h A n c ps up at' _ R2 hN HK.out).mono ?_
                rintro e v3 ⟨A1, n1, c1, A2, n2, c2, rfl, hPA, hPB, bb3⟩
                have hlo3 := bb3.size
                refine hK.out _ _ (keep5 hHeld bb3) (fun hHeld => ?_)
                clear hK K; (try simp only [Act.put, List.setIfInBounds_toArray, List.set_cons_zero, List.set_cons_succ])
                have R3 := R2.below bb3
                have B3 := B2.trans (bb3.mono S2)
                have S3 := B3.size
                have ra := (bb3.block ja (by have := Za.out; have := Q1.out; have := Q2.out; omega)).trans ra
                have rd := (bb3.block jd (by have := Zd.out; have := Q1.out; have := Q2.out; omega)).trans rd
                have Q3 : Hid (v2.heap.size ≤ v3.heap.size) := bb3.size
                clear bb3 hlo3
                (refine take_yes (i := 6) (d := some 56) (v := ?_) rfl rfl (by kernel_rfl) (by kernel_rfl) (by kernel_rfl) (by rfl) (fun _ _ _ h => h) ?_ (by assumption) ?_; rotate_left; focus ((intro w' hSw; (try dsimp only at hSw); go_simp) <;> with_reducible rfl)); (try simp only [Act.put, List.setIfInBounds_toArray, List.set_cons_zero, List.set_cons_succ])
                (refine take_yes (i := 7) (d := some 63) (v := ?_) rfl rfl (by kernel_rfl) (by kernel_rfl) (by kernel_rfl) (by rfl) (fun _ _ _ h => h) ?_ (by assumption) ?_; rotate_left; focus ((intro w' hSw; (try dsimp only at hSw); go_simp) <;> with_reducible rfl)); (try simp only [Act.put, List.setIfInBounds_toArray, List.set_cons_zero, List.set_cons_succ])
                (refine take_yes (i := 8) (d := some 64) (v := ?_) rfl rfl (by kernel_rfl) (by kernel_rfl) (by kernel_rfl) (by rfl) (fun _ _ _ h => h) ?_ (by assumption) ?_; rotate_left; focus ((intro w' hSw; (try dsimp only at hSw); go_simp) <;> with_reducible rfl)); (try simp only [Act.put, List.setIfInBounds_toArray, List.set_cons_zero, List.set_cons_succ])
                (refine take_yes (i := 9) (d := some 65) (v := ?_) rfl rfl (by kernel_rfl) (by kernel_rfl) (by kernel_rfl) (by rfl) (fun _ _ _ h => h) ?_ (by assumption) ?_; rotate_left; focus ((intro w' hSw; (try dsimp only at hSw); go_simp) <;> with_reducible rfl)); (try simp only [Act.put, List.setIfInBounds_toArray, List.set_cons_zero, List.set_cons_succ])
                have N : Hid (¬ jb = ja ∧ ¬ jb = jd ∧ ¬ b = ja ∧ ¬ b = jd ∧ ¬ ja = jd ∧ wr.heap.size ≤ ja ∧ wr.heap.size ≤ jd) := by have h1 := Za.out; have h2 := Zd.out; have h3 := Q1.out; have h4 := Q2.out; have h5 := Q3.out; refine ⟨?_, ?_, ?_, ?_, ?_, ?_, ?_⟩ <;> omega
                have NA : Hid ((ja < v2.heap.size ∨ v3.heap.size ≤ ja) ∧ (jd < v2.heap.size ∨ v3.heap.size ≤ jd)) := by have h1 := Za.out; have h2 := Zd.out; have h3 := Q1.out; have h4 := Q2.out; have h5 := Q3.out; refine ⟨?_, ?_⟩ <;> omega
                obtain ⟨n1_, n2_, n3_, n4_, n5_, n6_, n7_⟩ := N.out
                obtain ⟨na_, nd_⟩ := NA.out
                have hn1_ := hPA.len
                have hn2_ := hPB.len
                have HLA := Lib.hid hn1_
                have HLB := Lib.hid hn2_
                clear hn1_ hn2_
                have sa0 : v3.cell? ⟨ja, 0, none⟩ = some (.int .i64 0) := by rw [cell_of_row _ _ _ _ _ _ ra]; rfl
                have ga0 : v3.frozen? ⟨ja, 0, none⟩ = false := frozen_of_row _ _ _ _ _ ra
                have sa1 : v3.cell? ⟨ja, 1, none⟩ = some (.int .i64 0) := by rw [cell_of_row _ _ _ _ _ _ ra]; rfl
                have ga1 : v3.frozen? ⟨ja, 1, none⟩ = false := frozen_of_row _ _ _ _ _ ra
                have sa2 : v3.cell? ⟨ja, 2, none⟩ = some (.slice none 0 0) := by rw [cell_of_row _ _ _ _ _ _ ra]; rfl
                have ga2 : v3.frozen? ⟨ja, 2, none⟩ = false := frozen_of_row _ _ _ _ _ ra
                obtain ⟨v4, hv4⟩ : ∃ v, Hid ((((v3.setCell ⟨ja, 0, none⟩ (.int .i64 (wA w ⟨up, at'⟩))).setCell ⟨ja, 1, none⟩ (.int .i64 (hA h ⟨up, at'⟩))).setCell ⟨ja, 2, none⟩ (.slice A1 n1 c1)) = v) := ⟨_, rfl⟩
                refine wpAnyH_ready (rs := [12]) (by kernel_rfl) (by simp) ?_; refine AllReadyH.cons (o := _) rfl (fun K hK => ?_) AllReadyH.nil; go_simp
                rw [hv4.out]
                have ta := row_set (o := 2) (.slice A1 n1 c1) (row_set (o := 1) (.int .i64 (hA h ⟨up, at'⟩)) (row_set (o := 0) (.int .i64 (wA w ⟨up, at'⟩)) ra))
                rw [hv4.out] at ta
                have hfara : ∀ g, g ≠ ja → v4.heap[g]? = v3.heap[g]? := fun g hg => by rw [← hv4.out, row_far _ hg, row_far _ hg, row_far _ hg]
                refine hK.out _ _ ⟨cell_blk hHeld.1 (hfara jb n1_), cell_blk hHeld.2.1 (hfara jb n1_), cell_blk hHeld.2.2.1 (hfara jb n1_), cell_blk hHeld.2.2.2.1 (hfara b n3_), cell_blk hHeld.2.2.2.2 (hfara b n3_)⟩ (fun hHeld => ?_)
                clear hK K; (try simp only [Act.put, List.setIfInBounds_toArray, List.set_cons_zero, List.set_cons_succ])
                clear sa0 sa1 sa2 ga0 ga1 ga2
                have hPA := own_set (own_set (own_set hPA na_ 0 (.int .i64 (wA w ⟨up, at'⟩))) na_ 1 (.int .i64 (hA h ⟨up, at'⟩))) na_ 2 (.slice A1 n1 c1)
                have hPB := own_set (own_set (own_set hPB na_ 0 (.int .i64 (wA w ⟨up, at'⟩))) na_ 1 (.int .i64 (hA h ⟨up, at'⟩))) na_ 2 (.slice A1 n1 c1)
                rw [hv4.out] at hPA hPB
                have BB := below_set (below_set (below_set B3 n6_ (o := 0) (.int .i64 (wA w ⟨up, at'⟩))) n6_ (o := 1) (.int .i64 (hA h ⟨up, at'⟩))) n6_ (o := 2) (.slice A1 n1 c1)
                rw [hv4.out] at BB
                have rd := (hfara jd (fun e => n5_ e.symm)).trans rd
                have sd0 : v4.cell? ⟨jd, 0, none⟩ = some (.int .i64 0) := by rw [cell_of_row _ _ _ _ _ _ rd]; rfl
                have gd0 : v4.frozen? ⟨jd, 0, none⟩ = false := frozen_of_row _ _ _ _ _ rd
                have sd1 : v4.cell? ⟨jd, 1, none⟩ = some (.int .i64 0) := by rw [cell_of_row _ _ _ _ _ _ rd]; rfl
                have gd1 : v4.frozen? ⟨jd, 1, none⟩ = false := frozen_of_row _ _ _ _ _ rd
                have sd2 : v4.cell? ⟨jd, 2, none⟩ = some (.slice none 0 0) := by rw [cell_of_row _ _ _ _ _ _ rd]; rfl
                have gd2 : v4.frozen? ⟨jd, 2, none⟩ = false := frozen_of_row _ _ _ _ _ rd
                obtain ⟨v5, hv5⟩ : ∃ v, Hid ((((v4.setCell ⟨jd, 0, none⟩ (.int .i64 (wB w ⟨up, at'⟩))).setCell ⟨jd, 1, none⟩ (.int .i64 (hB h ⟨up, at'⟩))).setCell ⟨jd, 2, none⟩ (.slice A2 n2 c2)) = v) := ⟨_, rfl⟩
                refine wpAnyH_ready (rs := [13]) (by kernel_rfl) (by simp) ?_; refine AllReadyH.cons (o := _) rfl (fun K hK => ?_) AllReadyH.nil; go_simp
                rw [hv5.out]
                have td := row_set (o := 2) (.slice A2 n2 c2) (row_set (o := 1) (.int .i64 (hB h ⟨up, at'⟩)) (row_set (o := 0) (.int .i64 (wB w ⟨up, at'⟩)) rd))
                rw [hv5.out] at td
                have hfard : ∀ g, g ≠ jd → v5.heap[g]? = v4.heap[g]? := fun g hg => by rw [← hv5.out, row_far _ hg, row_far _ hg, row_far _ hg]
                refine hK.out _ _ ⟨cell_blk hHeld.1 (hfard jb n2_), cell_blk hHeld.2.1 (hfard jb n2_), cell_blk hHeld.2.2.1 (hfard jb n2_), cell_blk hHeld.2.2.2.1 (hfard b n4_), cell_blk hHeld.2.2.2.2 (hfard b n4_)⟩ (fun hHeld => ?_)
                clear hK K; (try simp only [Act.put, List.setIfInBounds_toArray, List.set_cons_zero, List.set_cons_succ])
                clear sd0 sd1 sd2 gd0 gd1 gd2
                have hPA := own_set (own_set (own_set hPA nd_ 0 (.int .i64 (wB w ⟨up, at'⟩))) nd_ 1 (.int .i64 (hB h ⟨up, at'⟩))) nd_ 2 (.slice A2 n2 c2)
                have hPB := own_set (own_set (own_set hPB nd_ 0 (.int .i64 (wB w ⟨up, at'⟩))) nd_ 1 (.int .i64 (hB h ⟨up, at'⟩))) nd_ 2 (.slice A2 n2 c2)
                rw [hv5.out] at hPA hPB
                have BB := below_set (below_set (below_set BB n7_ (o := 0) (.int .i64 (wB w ⟨up, at'⟩))) n7_ (o := 1) (.int .i64 (hB h ⟨up, at'⟩))) n7_ (o := 2) (.slice A2 n2 c2)
                rw [hv5.out] at BB
                have ra := (hfard ja n5_).trans ta
                have rd := td
                (refine take_yes (i := 14) (d := some 11) (v := ?_) rfl rfl (by kernel_rfl) (by kernel_rfl) (by kernel_rfl) (by rfl) (fun _ _ _ h => h) ?_ (by assumption) ?_; rotate_left; focus ((intro w' hSw; (try dsimp only at hSw); go_simp) <;> with_reducible rfl)); (try simp only [Act.put, List.setIfInBounds_toArray, List.set_cons_zero, List.set_cons_succ])
                refine wpAnyH_done (by kernel_rfl) ?_ _
                have ya0 : v5.cell? ⟨ja, 0, none⟩ = some (.int .i64 (wA w ⟨up, at'⟩)) := by rw [cell_of_row _ _ _ _ _ _ ra]; rfl
                have ya1 : v5.cell? ⟨ja, 1, none⟩ = some (.int .i64 (hA h ⟨up, at'⟩)) := by rw [cell_of_row _ _ _ _ _ _ ra]; rfl
                have ya2 : v5.cell? ⟨ja, 2, none⟩ = some (.slice A1 n1 c1) := by rw [cell_of_row _ _ _ _ _ _ ra]; rfl
                have yd0 : v5.cell? ⟨jd, 0, none⟩ = some (.int .i64 (wB w ⟨up, at'⟩)) := by rw [cell_of_row _ _ _ _ _ _ rd]; rfl
                have yd1 : v5.cell? ⟨jd, 1, none⟩ = some (.int .i64 (hB h ⟨up, at'⟩)) := by rw [cell_of_row _ _ _ _ _ _ rd]; rfl
                have yd2 : v5.cell? ⟨jd, 2, none⟩ = some (.slice A2 n2 c2) := by rw [cell_of_row _ _ _ _ _ _ rd]; rfl
                have hn1 : n1 ≤ 1048576 := by have h1 := HLA.out; have h2 := pA_len ⟨up, at'⟩ ps; have h3 := HLEN.out; omega
                have hn2 : n2 ≤ 1048576 := by have h1 := HLB.out; have h2 := pB_len ⟨up, at'⟩ ps; have h3 := HLEN.out; omega
                have hPA := hPA.rd
                have hPB := hPB.rd
                have BS := BB.size
                clear ra rd ta td hfara hfard hHeld n1_ n2_ n3_ n4_ n5_ n6_ n7_ na_ nd_
                go_wp2_with fail
                go_meet
                exact ⟨ja, jd, A1, n1, c1, A2, n2, c2, rfl, rfl, rfl, ya0, ya1, ya2, yd0, yd1, yd2, hPA, hPB, BB⟩
          · go_simp
            obtain ⟨jd, hjd⟩ : ∃ j, Hid (v0.heap.size = j) := ⟨_, rfl⟩
            obtain ⟨v1, hv1⟩ : ∃ v, Hid (v0.alloc (.cells #[.int .i64 0, .int .i64 0, .slice none 0 0] 30) = v) := ⟨_, rfl⟩
            have rd : v1.heap[jd]? = some (.cells #[.int .i64 0, .int .i64 0, .slice none 0 0] 30 (0, 0)) := by rw [← hv1.out, ← hjd.out]; exact heap_alloc_new v0 _
            have bb1 : Below v0.heap.size v0 v1 := by rw [← hv1.out]; exact (Below.refl _ _).alloc (Nat.le_refl _) _
            have zd : v0.heap.size = jd ∧ v1.heap.size = jd + 1 := by rw [← hv1.out, ← hjd.out]; simp
            have Zd := Lib.hid zd
            rw [hv1.out, hjd.out]
            refine hK.out _ _ (keep5 hHeld bb1) (fun hHeld => ?_)
            clear hK K; (try simp only [Act.put, List.setIfInBounds_toArray, List.set_cons_zero, List.set_cons_succ])
            have R1 := hR0.below bb1
            have B1 := hB0.trans (bb1.mono hs0)
            have S1 := B1.size
            have Q1 : Hid (v0.heap.size ≤ v1.heap.size) := bb1.size
            clear bb1 zd
            refine wpAnyH_ready (rs := [5, 10]) (by kernel_rfl) (by simp) ?_
            refine AllReadyH.cons (o := _) rfl (fun K hK => ?_) (AllReadyH.cons (o := _) rfl (fun K hK => ?_) AllReadyH.nil)
            · go_simp
              refine (splitI_any w h A n c ps up at' _ R1 hN HK.out).mono ?_
              rintro e v2 ⟨A1, n1, c1, A2, n2, c2, rfl, hPA, hPB, bb2⟩
              have hlo2 := bb2.size
              refine hK.out _ _ (keep5 hHeld bb2) (fun hHeld => ?_)
              clear hK K; (try simp only [Act.put, List.setIfInBounds_toArray, List.set_cons_zero, List.set_cons_succ])
              have R2 := R1.below bb2
              have B2 := B1.trans (bb2.mono S1)
              have S2 := B2.size
              have rd := (bb2.block jd (by have := Zd.out; have := Q1.out; omega)).trans rd
              have Q2 : Hid (v1.heap.size ≤ v2.heap.size) := bb2.size
              clear bb2 hlo2
              (refine take_yes (i := 6) (d := some 56) (v := ?_) rfl rfl (by kernel_rfl) (by kernel_rfl) (by kernel_rfl) (by rfl) (fun _ _ _ h => h) ?_ (by assumption) ?_; rotate_left; focus ((intro w' hSw; (try dsimp only at hSw); go_simp) <;> with_reducible rfl)); (try simp only [Act.put, List.setIfInBounds_toArray, List.set_cons_zero, List.set_cons_succ])
              (refine take_yes (i := 7) (d := some 63) (v := ?_) rfl rfl (by kernel_rfl) (by kernel_rfl) (by kernel_rfl) (by rfl) (fun _ _ _ h => h) ?_ (by assumption) ?_; rotate_left; focus ((intro w' hSw; (try dsimp only at hSw); go_simp) <;> with_reducible rfl)); (try simp only [Act.put, List.setIfInBounds_toArray, List.set_cons_zero, List.set_cons_succ])
              (refine take_yes (i := 8) (d := some 64) (v := ?_) rfl rfl (by kernel_rfl) (by kernel_rfl) (by kernel_rfl) (by rfl) (fun _ _ _ h => h) ?_ (by assumption) ?_; rotate_left; focus ((intro w' hSw; (try dsimp only at hSw); go_simp) <;> with_reducible rfl)); (try simp only [Act.put, List.setIfInBounds_toArray, List.set_cons_zero, List.set_cons_succ])
              (refine take_yes (i := 9) (d := some 65) (v := ?_) rfl rfl (by kernel_rfl) (by kernel_rfl) (by kernel_rfl) (by rfl) (fun _ _ _ h => h) ?_ (by assumption) ?_; rotate_left; focus ((intro w' hSw; (try dsimp only at hSw); go_simp) <;> with_reducible rfl)); (try simp only [Act.put, List.setIfInBounds_toArray, List.set_cons_zero, List.set_cons_succ])
              refine wpAnyH_ready (rs := [10]) (by kernel_rfl) (by simp) ?_
              refine AllReadyH.cons (o := _) rfl (fun K hK => ?_) AllReadyH.nil
              · go_simp
                obtain ⟨ja, hja⟩ : ∃ j, Hid (v2.heap.size = j) := ⟨_, rfl⟩
                obtain ⟨v3, hv3⟩ : ∃ v, Hid (v2.alloc (.cells #[.int .i64 0, .int .i64 0, .slice none 0 0] 30) = v) := ⟨_, rfl⟩
                have ra : v3.heap[ja]? = some (.cells #[.int .i64 0, .int .i64 0, .slice none 0 0] 30 (0, 0)) := by rw [← hv3.out, ← hja.out]; exact heap_alloc_new v2 _
                have bb3 : Below v2.heap.size v2 v3 := by rw [← hv3.out]; exact (Below.refl _ _).alloc (Nat.le_refl _) _
                have za : v2.heap.size = ja ∧ v3.heap.size = ja + 1 := by rw [← hv3.out, ← hja.out]; simp
                have Za := Lib.hid za
                rw [hv3.out, hja.out]
                refine hK.out _ _ (keep5 hHeld bb3) (fun hHeld => ?_)
                clear hK K; (try simp only [Act.put, List.setIfInBounds_toArray, List.set_cons_zero, List.set_cons_succ])
                have R3 := R2.below bb3
                have B3 := B2.trans (bb3.mono S2)
                have S3 := B3.size
                have rd := (bb3.block jd (by have := Zd.out; have := Q1.out; have := Q2.out; omega)).trans rd
                have hPA := hPA.below bb3
                have hPB := hPB.below bb3
                have Q3 : Hid (v2.heap.size ≤ v3.heap.size) := bb3.size
                clear bb3 za
                have N : Hid (¬ jb = ja ∧ ¬ jb = jd ∧ ¬ b = ja ∧ ¬ b = jd ∧ ¬ ja = jd ∧ wr.heap.size ≤ ja ∧ wr.heap.size ≤ jd) := by have h1 := Za.out; have h2 := Zd.out; have h3 := Q1.out; have h4 := Q2.out; have h5 := Q3.out; refine ⟨?_, ?_, ?_, ?_, ?_, ?_, ?_⟩ <;> omega
                have NA : Hid ((ja < v1.heap.size ∨ v2.heap.size ≤ ja) ∧ (jd < v1.heap.size ∨ v2.heap.size ≤ jd)) := by have h1 := Za.out; have h2 := Zd.out; have h3 := Q1.out; have h4 := Q2.out; have h5 := Q3.out; refine ⟨?_, ?_⟩ <;> omega
                obtain ⟨n1_, n2_, n3_, n4_, n5_, n6_, n7_⟩ := N.out
                obtain ⟨na_, nd_⟩ := NA.out
                have hn1_ := hPA.len
                have hn2_ := hPB.len
                have HLA := Lib.hid hn1_
                have HLB := Lib.hid hn2_
                clear hn1_ hn2_
                have sa0 : v3.cell? ⟨ja, 0, none⟩ = some (.int .i64 0) := by rw [cell_of_row _ _ _ _ _ _ ra]; rfl
                have ga0 : v3.frozen? ⟨ja, 0, none⟩ = false := frozen_of_row _ _ _ _ _ ra
                have sa1 : v3.cell? ⟨ja, 1, none⟩ = some (.int .i64 0) := by rw [cell_of_row _ _ _ _ _ _ ra]; rfl
                have ga1 : v3.frozen? ⟨ja, 1, none⟩ = false := frozen_of_row _ _ _ _ _ ra
                have sa2 : v3.cell? ⟨ja, 2, none⟩ = some (.slice none 0 0) := by rw [cell_of_row _ _ _ _ _ _ ra]; rfl
                have ga2 : v3.frozen? ⟨ja, 2, none⟩ = false := frozen_of_row _ _ _ _ _ ra
                obtain ⟨v4, hv4⟩ : ∃ v, Hid ((((v3.setCell ⟨ja, 0, none⟩ (.int .i64 (wA w ⟨up, at'⟩))).setCell ⟨ja, 1, none⟩ (.int .i64 (hA h ⟨up, at'⟩))).setCell ⟨ja, 2, none⟩ (.slice A1 n1 c1)) = v) := ⟨_, rfl⟩
                refine wpAnyH_ready (rs := [12]) (by kernel_rfl) (by simp) ?_; refine AllReadyH.cons (o := _) rfl (fun K hK => ?_) AllReadyH.nil; go_simp
                rw [hv4.out]
                have ta := row_set (o := 2) (.slice A1 n1 c1) (row_set (o := 1) (.int .i64 (hA h ⟨up, at'⟩)) (row_set (o := 0) (.int .i64 (wA w ⟨up, at'⟩)) ra))
                rw [hv4.out] at ta
                have hfara : ∀ g, g ≠ ja → v4.heap[g]? = v3.heap[g]? := fun g hg => by rw [← hv4.out, row_far _ hg, row_far _ hg, row_far _ hg]
                refine hK.out _ _ ⟨cell_blk hHeld.1 (hfara jb n1_), cell_blk hHeld.2.1 (hfara jb n1_), cell_blk hHeld.2.2.1 (hfara jb n1_), cell_blk hHeld.2.2.2.1 (hfara b n3_), cell_blk hHeld.2.2.2.2 (hfara b n3_)⟩ (fun hHeld => ?_)
                clear hK K; (try simp only [Act.put, List.setIfInBounds_toArray, List.set_cons_zero, List.set_cons_succ])
                clear sa0 sa1 sa2 ga0 ga1 ga2
                have hPA := own_set (own_set (own_set hPA na_ 0 (.int .i64 (wA w ⟨up, at'⟩))) na_ 1 (.int .i64 (hA h ⟨up, at'⟩))) na_ 2 (.slice A1 n1 c1)
                have hPB := own_set (own_set (own_set hPB na_ 0 (.int .i64 (wA w ⟨up, at'⟩))) na_ 1 (.int .i64 (hA h ⟨up, at'⟩))) na_ 2 (.slice A1 n1 c1)
                rw [hv4.out] at hPA hPB
                have BB := below_set (below_set (below_set B3 n6_ (o := 0) (.int .i64 (wA w ⟨up, at'⟩))) n6_ (o := 1) (.int .i64 (hA h ⟨up, at'⟩))) n6_ (o := 2) (.slice A1 n1 c1)
                rw [hv4.out] at BB
                have rd := (hfara jd (fun e => n5_ e.symm)).trans rd
                have sd0 : v4.cell? ⟨jd, 0, none⟩ = some (.int .i64 0) := by rw [cell_of_row _ _ _ _ _ _ rd]; rfl
                have gd0 : v4.frozen? ⟨jd, 0, none⟩ = false := frozen_of_row _ _ _ _ _ rd
                have sd1 : v4.cell? ⟨jd, 1, none⟩ = some (.int .i64 0) := by rw [cell_of_row _ _ _ _ _ _ rd]; rfl
                have gd1 : v4.frozen? ⟨jd, 1, none⟩ = false := frozen_of_row _ _ _ _ _ rd
                have sd2 : v4.cell? ⟨jd, 2, none⟩ = some (.slice none 0 0) := by rw [cell_of_row _ _ _ _ _ _ rd]; rfl
                have gd2 : v4.frozen? ⟨jd, 2, none⟩ = false := frozen_of_row _ _ _ _ _ rd
                obtain ⟨v5, hv5⟩ : ∃ v, Hid ((((v4.setCell ⟨jd, 0, none⟩ (.int .i64 (wB w ⟨up, at'⟩))).setCell ⟨jd, 1, none⟩ (.int .i64 (hB h ⟨up, at'⟩))).setCell ⟨jd, 2, none⟩ (.slice A2 n2 c2)) = v) := ⟨_, rfl⟩
                refine wpAnyH_ready (rs := [13]) (by kernel_rfl) (by simp) ?_; refine AllReadyH.cons (o := _) rfl (fun K hK => ?_) AllReadyH.nil; go_simp
                rw [hv5.out]
                have td := row_set (o := 2) (.slice A2 n2 c2) (row_set (o := 1) (.int .i64 (hB h ⟨up, at'⟩)) (row_set (o := 0) (.int .i64 (wB w ⟨up, at'⟩)) rd))
                rw [hv5.out] at td
                have hfard : ∀ g, g ≠ jd → v5.heap[g]? = v4.heap[g]? := fun g hg => by rw [← hv5.out, row_far _ hg, row_far _ hg, row_far _ hg]
                refine hK.out _ _ ⟨cell_blk hHeld.1 (hfard jb n2_), cell_blk hHeld.2.1 (hfard jb n2_), cell_blk hHeld.2.2.1 (hfard jb n2_), cell_blk hHeld.2.2.2.1 (hfard b n4_), cell_blk hHeld.2.2.2.2 (hfard b n4_)⟩ (fun hHeld => ?_)
                clear hK K; (try simp only [Act.put, List.setIfInBounds_toArray, List.set_cons_zero, List.set_cons_succ])
                clear sd0 sd1 sd2 gd0 gd1 gd2
                have hPA := own_set (own_set (own_set hPA nd_ 0 (.int .i64 (wB w ⟨up, at'⟩))) nd_ 1 (.int .i64 (hB h ⟨up, at'⟩))) nd_ 2 (.slice A2 n2 c2)
                have hPB := own_set (own_set (own_set hPB nd_ 0 (.int .i64 (wB w ⟨up, at'⟩))) nd_ 1 (.int .i64 (hB h ⟨up, at'⟩))) nd_ 2 (.slice A2 n2 c2)
                rw [hv5.out] at hPA hPB
                have BB := below_set (below_set (below_set BB n7_ (o := 0) (.int .i64 (wB w ⟨up, at'⟩))) n7_ (o := 1) (.int .i64 (hB h ⟨up, at'⟩))) n7_ (o := 2) (.slice A2 n2 c2)
                rw [hv5.out] at BB
                have ra := (hfard ja n5_).trans ta
                have rd := td
                (refine take_yes (i := 14) (d := some 11) (v := ?_) rfl rfl (by kernel_rfl) (by kernel_rfl) (by kernel_rfl) (by rfl) (fun _ _ _ h => h) ?_ (by assumption) ?_; rotate_left; focus ((intro w' hSw; (try dsimp only at hSw); go_simp) <;> with_reducible rfl)); (try simp only [Act.put, List.setIfInBounds_toArray, List.set_cons_zero, List.set_cons_succ])
                refine wpAnyH_done (by kernel_rfl) ?_ _
                have ya0 : v5.cell? ⟨ja, 0, none⟩ = some (.int .i64 (wA w ⟨up, at'⟩)) := by rw [cell_of_row _ _ _ _ _ _ ra]; rfl
                have ya1 : v5.cell? ⟨ja, 1, none⟩ = some (.int .i64 (hA h ⟨up, at'⟩)) := by rw [cell_of_row _ _ _ _ _ _ ra]; rfl
                have ya2 : v5.cell? ⟨ja, 2, none⟩ = some (.slice A1 n1 c1) := by rw [cell_of_row _ _ _ _ _ _ ra]; rfl
                have yd0 : v5.cell? ⟨jd, 0, none⟩ = some (.int .i64 (wB w ⟨up, at'⟩)) := by rw [cell_of_row _ _ _ _ _ _ rd]; rfl
                have yd1 : v5.cell? ⟨jd, 1, none⟩ = some (.int .i64 (hB h ⟨up, at'⟩)) := by rw [cell_of_row _ _ _ _ _ _ rd]; rfl
                have yd2 : v5.cell? ⟨jd, 2, none⟩ = some (.slice A2 n2 c2) := by rw [cell_of_row _ _ _ _ _ _ rd]; rfl
                have hn1 : n1 ≤ 1048576 := by have h1 := HLA.out; have h2 := pA_len ⟨up, at'⟩ ps; have h3 := HLEN.out; omega
                have hn2 : n2 ≤ 1048576 := by have h1 := HLB.out; have h2 := pB_len ⟨up, at'⟩ ps; have h3 := HLEN.out; omega
                have hPA := hPA.rd
                have hPB := hPB.rd
                have BS := BB.size
                clear ra rd ta td hfara hfard hHeld n1_ n2_ n3_ n4_ n5_ n6_ n7_ na_ nd_
                go_wp2_with fail
                go_meet
                exact ⟨ja, jd, A1, n1, c1, A2, n2, c2, rfl, rfl, rfl, ya0, ya1, ya2, yd0, yd1, yd2, hPA, hPB, BB⟩
            · go_simp
              obtain ⟨ja, hja⟩ : ∃ j, Hid (v1.heap.size = j) := ⟨_, rfl⟩
              obtain ⟨v2, hv2⟩ : ∃ v, Hid (v1.alloc (.cells #[.int .i64 0, .int .i64 0, .slice none 0 0] 30) = v) := ⟨_, rfl⟩
              have ra : v2.heap[ja]? = some (.cells #[.int .i64 0, .int .i64 0, .slice none 0 0] 30 (0, 0)) := by rw [← hv2.out, ← hja.out]; exact heap_alloc_new v1 _
              have bb2 : Below v1.heap.size v1 v2 := by rw [← hv2.out]; exact (Below.refl _ _).alloc (Nat.le_refl _) _
              have za : v1.heap.size = ja ∧ v2.heap.size = ja + 1 := by rw [← hv2.out, ← hja.out]; simp
              have Za := Lib.hid za
              rw [hv2.out, hja.out]
              refine hK.out _ _ (keep5 hHeld bb2) (fun hHeld => ?_)
              clear hK K; (try simp only [Act.put, List.setIfInBounds_toArray, List.set_cons_zero, List.set_cons_succ])
              have R2 := R1.below bb2
              have B2 := B1.trans (bb2.mono S1)
              have S2 := B2.size
              have rd := (bb2.block jd (by have := Zd.out; have := Q1.out; omega)).trans rd
              have Q2 : Hid (v1.heap.size ≤ v2.heap.size) := bb2.size
              clear bb2 za
              refine wpAnyH_ready (rs := [5]) (by kernel_rfl) (by simp) ?_
              refine AllReadyH.cons (o := _) rfl (fun K hK => ?_) AllReadyH.nil
              · go_simp
                refine (splitI_any w h A n c ps up at' _ R2 hN HK.out).mono ?_
                rintro e v3 ⟨A1, n1, c1, A2, n2, c2, rfl, hPA, hPB, bb3⟩
                have hlo3 := bb3.size
                refine hK.out _ _ (keep5 hHeld bb3) (fun hHeld => ?_)
                clear hK K; (try simp only [Act.put, List.setIfInBounds_toArray, List.set_cons_zero, List.set_cons_succ])
                have R3 := R2.below bb3
                have B3 := B2.trans (bb3.mono S2)
                have S3 := B3.size
                have ra := (bb3.block ja (by have := Za.out; have := Q1.out; have := Q2.out; omega)).trans ra
                have rd := (bb3.block jd (by have := Zd.out; have := Q1.out; have := Q2.out; omega)).trans rd
                have Q3 : Hid (v2.heap.size ≤ v3.heap.size) := bb3.size
                clear bb3 hlo3
                (refine take_yes (i := 6) (d := some 56) (v := ?_) rfl rfl (by kernel_rfl) (by kernel_rfl) (by kernel_rfl) (by rfl) (fun _ _ _ h => h) ?_ (by assumption) ?_; rotate_left; focus ((intro w' hSw; (try dsimp only at hSw); go_simp) <;> with_reducible rfl)); (try simp only [Act.put, List.setIfInBounds_toArray, List.set_cons_zero, List.set_cons_succ])
                (refine take_yes (i := 7) (d := some 63) (v := ?_) rfl rfl (by kernel_rfl) (by kernel_rfl) (by kernel_rfl) (by rfl) (fun _ _ _ h => h) ?_ (by assumption) ?_; rotate_left; focus ((intro w' hSw; (try dsimp only at hSw); go_simp) <;> with_reducible rfl)); (try simp only [Act.put, List.setIfInBounds_toArray, List.set_cons_zero, List.set_cons_succ])
                (refine take_yes (i := 8) (d := some 64) (v := ?_) rfl rfl (by kernel_rfl) (by kernel_rfl) (by kernel_rfl) (by rfl) (fun _ _ _ h => h) ?_ (by assumption) ?_; rotate_left; focus ((intro w' hSw; (try dsimp only at hSw); go_simp) <;> with_reducible rfl)); (try simp only [Act.put, List.setIfInBounds_toArray, List.set_cons_zero, List.set_cons_succ])
                (refine take_yes (i := 9) (d := some 65) (v := ?_) rfl rfl (by kernel_rfl) (by kernel_rfl) (by kernel_rfl) (by rfl) (fun _ _ _ h => h) ?_ (by assumption) ?_; rotate_left; focus ((intro w' hSw; (try dsimp only at hSw); go_simp) <;> with_reducible rfl)); (try simp only [Act.put, List.setIfInBounds_toArray, List.set_cons_zero, List.set_cons_succ])
                have N : Hid (¬ jb = ja ∧ ¬ jb = jd ∧ ¬ b = ja ∧ ¬ b = jd ∧ ¬ ja = jd ∧ wr.heap.size ≤ ja ∧ wr.heap.size ≤ jd) := by have h1 := Za.out; have h2 := Zd.out; have h3 := Q1.out; have h4 := Q2.out; have h5 := Q3.out; refine ⟨?_, ?_, ?_, ?_, ?_, ?_, ?_⟩ <;> omega
                have NA : Hid ((ja < v2.heap.size ∨ v3.heap.size ≤ ja) ∧ (jd < v2.heap.size ∨ v3.heap.size ≤ jd)) := by have h1 := Za.out; have h2 := Zd.out; have h3 := Q1.out; have h4 := Q2.out; have h5 := Q3.out; refine ⟨?_, ?_⟩ <;> omega
                obtain ⟨n1_, n2_, n3_, n4_, n5_, n6_, n7_⟩ := N.out
                obtain ⟨na_, nd_⟩ := NA.out
                have hn1_ := hPA.len
                have hn2_ := hPB.len
                have HLA := Lib.hid hn1_
                have HLB := Lib.hid hn2_
                clear hn1_ hn2_
                have sa0 : v3.cell? ⟨ja, 0, none⟩ = some (.int .i64 0) := by rw [cell_of_row _ _ _ _ _ _ ra]; rfl
                have ga0 : v3.frozen? ⟨ja, 0, none⟩ = false := frozen_of_row _ _ _ _ _ ra
                have sa1 : v3.cell? ⟨ja, 1, none⟩ = some (.int .i64 0) := by rw [cell_of_row _ _ _ _ _ _ ra]; rfl
                have ga1 : v3.frozen? ⟨ja, 1, none⟩ = false := frozen_of_row _ _ _ _ _ ra
                have sa2 : v3.cell? ⟨ja, 2, none⟩ = some (.slice none 0 0) := by rw [cell_of_row _ _ _ _ _ _ ra]; rfl
                have ga2 : v3.frozen? ⟨ja, 2, none⟩ = false := frozen_of_row _ _ _ _ _ ra
                obtain ⟨v4, hv4⟩ : ∃ v, Hid ((((v3.setCell ⟨ja, 0, none⟩ (.int .i64 (wA w ⟨up, at'⟩))).setCell ⟨ja, 1, none⟩ (.int .i64 (hA h ⟨up, at'⟩))).setCell ⟨ja, 2, none⟩ (.slice A1 n1 c1)) = v) := ⟨_, rfl⟩
                refine wpAnyH_ready (rs := [12]) (by kernel_rfl) (by simp) ?_; refine AllReadyH.cons (o := _) rfl (fun K hK => ?_) AllReadyH.nil; go_simp
                rw [hv4.out]
                have ta := row_set (o := 2) (.slice A1 n1 c1) (row_set (o := 1) (.int .i64 (hA h ⟨up, at'⟩)) (row_set (o := 0) (.int .i64 (wA w ⟨up, at'⟩)) ra))
                rw [hv4.out] at ta
                have hfara : ∀ g, g ≠ ja → v4.heap[g]? = v3.heap[g]? := fun g hg => by rw [← hv4.out, row_far _ hg, row_far _ hg, row_far _ hg]
                refine hK.out _ _ ⟨cell_blk hHeld.1 (hfara jb n1_), cell_blk hHeld.2.1 (hfara jb n1_), cell_blk hHeld.2.2.1 (hfara jb n1_), cell_blk hHeld.2.2.2.1 (hfara b n3_), cell_blk hHeld.2.2.2.2 (hfara b n3_)⟩ (fun hHeld => ?_)
                clear hK K; (try simp only [Act.put, List.setIfInBounds_toArray, List.set_cons_zero, List.set_cons_succ])
                clear sa0 sa1 sa2 ga0 ga1 ga2
                have hPA := own_set (own_set (own_set hPA na_ 0 (.int .i64 (wA w ⟨up, at'⟩))) na_ 1 (.int .i64 (hA h ⟨up, at'⟩))) na_ 2 (.slice A1 n1 c1)
                have hPB := own_set (own_set (own_set hPB na_ 0 (.int .i64 (wA w ⟨up, at'⟩))) na_ 1 (.int .i64 (hA h ⟨up, at'⟩))) na_ 2 (.slice A1 n1 c1)
                rw [hv4.out] at hPA hPB
                have BB := below_set (below_set (below_set B3 n6_ (o := 0) (.int .i64 (wA w ⟨up, at'⟩))) n6_ (o := 1) (.int .i64 (hA h ⟨up, at'⟩))) n6_ (o := 2) (.slice A1 n1 c1)
                rw [hv4.out] at BB
                have rd := (hfara jd (fun e => n5_ e.symm)).trans rd
                have sd0 : v4.cell? ⟨jd, 0, none⟩ = some (.int .i64 0) := by rw [cell_of_row _ _ _ _ _ _ rd]; rfl
                have gd0 : v4.frozen? ⟨jd, 0, none⟩ = false := frozen_of_row _ _ _ _ _ rd
                have sd1 : v4.cell? ⟨jd, 1, none⟩ = some (.int .i64 0) := by rw [cell_of_row _ _ _ _ _ _ rd]; rfl
                have gd1 : v4.frozen? ⟨jd, 1, none⟩ = false := frozen_of_row _ _ _ _ _ rd
                have sd2 : v4.cell? ⟨jd, 2, none⟩ = some (.slice none 0 0) := by rw [cell_of_row _ _ _ _ _ _ rd]; rfl
                have gd2 : v4.frozen? ⟨jd, 2, none⟩ = false := frozen_of_row _ _ _ _ _ rd
                obtain ⟨v5, hv5⟩ : ∃ v, Hid ((((v4.setCell ⟨jd, 0, none⟩ (.int .i64 (wB w ⟨up, at'⟩))).setCell ⟨jd, 1, none⟩ (.int .i64 (hB h ⟨up, at'⟩))).setCell ⟨jd, 2, none⟩ (.slice A2 n2 c2)) = v) := ⟨_, rfl⟩
                refine wpAnyH_ready (rs := [13]) (by kernel_rfl) (by simp) ?_; refine AllReadyH.cons (o := _) rfl (fun K hK => ?_) AllReadyH.nil; go_simp
                rw [hv5.out]
                have td := row_set (o := 2) (.slice A2 n2 c2) (row_set (o := 1) (.int .i64 (hB h ⟨up, at'⟩)) (row_set (o := 0) (.int .i64 (wB w ⟨up, at'⟩)) rd))
                rw [hv5.out] at td
                have hfard : ∀ g, g ≠ jd → v5.heap[g]? = v4.heap[g]? := fun g hg => by rw [← hv5.out, row_far _ hg, row_far _ hg, row_far _ hg]
                refine hK.out _ _ ⟨cell_blk hHeld.1 (hfard jb n2_), cell_blk hHeld.2.1 (hfard jb n2_), cell_blk hHeld.2.2.1 (hfard jb n2_), cell_blk hHeld.2.2.2.1 (hfard b n4_), cell_blk hHeld.2.2.2.2 (hfard b n4_)⟩ (fun hHeld => ?_)
                clear hK K; (try simp only [Act.put, List.setIfInBounds_toArray, List.set_cons_zero, List.set_cons_succ])
                clear sd0 sd1 sd2 gd0 gd1 gd2
                have hPA := own_set (own_set (own_set hPA nd_ 0 (.int .i64 (wB w ⟨up, at'⟩))) nd_ 1 (.int .i64 (hB h ⟨up, at'⟩))) nd_ 2 (.slice A2 n2 c2)
                have hPB := own_set (own_set (own_set hPB nd_ 0 (.int .i64 (wB w ⟨up, at'⟩))) nd_ 1 (.int .i64 (hB h ⟨up, at'⟩))) nd_ 2 (.slice A2 n2 c2)
                rw [hv5.out] at hPA hPB
                have BB := below_set (below_set (below_set BB n7_ (o := 0) (.int .i64 (wB w ⟨up, at'⟩))) n7_ (o := 1) (.int .i64 (hB h ⟨up, at'⟩))) n7_ (o := 2) (.slice A2 n2 c2)
                rw [hv5.out] at BB
                have ra := (hfard ja n5_).trans ta
                have rd := td
                (refine take_yes (i := 14) (d := some 11) (v := ?_) rfl rfl (by kernel_rfl) (by kernel_rfl) (by kernel_rfl) (by rfl) (fun _ _ _ h => h) ?_ (by assumption) ?_; rotate_left; focus ((intro w' hSw; (try dsimp only at hSw); go_simp) <;> with_reducible rfl)); (try simp only [Act.put, List.setIfInBounds_toArray, List.set_cons_zero, List.set_cons_succ])
                refine wpAnyH_done (by kernel_rfl) ?_ _
                have ya0 : v5.cell? ⟨ja, 0, none⟩ = some (.int .i64 (wA w ⟨up, at'⟩)) := by rw [cell_of_row _ _ _ _ _ _ ra]; rfl
                have ya1 : v5.cell? ⟨ja, 1, none⟩ = some (.int .i64 (hA h ⟨up, at'⟩)) := by rw [cell_of_row _ _ _ _ _ _ ra]; rfl
                have ya2 : v5.cell? ⟨ja, 2, none⟩ = some (.slice A1 n1 c1) := by rw [cell_of_row _ _ _ _ _ _ ra]; rfl
                have yd0 : v5.cell? ⟨jd, 0, none⟩ = some (.int .i64 (wB w ⟨up, at'⟩)) := by rw [cell_of_row _ _ _ _ _ _ rd]; rfl
                have yd1 : v5.cell? ⟨jd, 1, none⟩ = some (.int .i64 (hB h ⟨up, at'⟩)) := by rw [cell_of_row _ _ _ _ _ _ rd]; rfl
                have yd2 : v5.cell? ⟨jd, 2, none⟩ = some (.slice A2 n2 c2) := by rw [cell_of_row _ _ _ _ _ _ rd]; rfl
                have hn1 : n1 ≤ 1048576 := by have h1 := HLA.out; have h2 := pA_len ⟨up, at'⟩ ps; have h3 := HLEN.out; omega
                have hn2 : n2 ≤ 1048576 := by have h1 := HLB.out; have h2 := pB_len ⟨up, at'⟩ ps; have h3 := HLEN.out; omega
                have hPA := hPA.rd
                have hPB := hPB.rd
                have BS := BB.size
                clear ra rd ta td hfara hfard hHeld n1_ n2_ n3_ n4_ n5_ n6_ n7_ na_ nd_
                go_wp2_with fail
                go_meet
                exact ⟨ja, jd, A1, n1, c1, A2, n2, c2, rfl, rfl, rfl, ya0, ya1, ya2, yd0, yd1, yd2, hPA, hPB, BB⟩
        case rest =>
          obtain ⟨ja, jd, A1, n1, c1, A2, n2, c2, rfl, rfl, rfl, ya0, ya1, ya2, yd0, yd1, yd2, hPA, hPB, hBx⟩ := hcut
          have hn1e := hPA.len; have hn2e := hPB.len
          have hsum : n1 + n2 = n := by have h1 := HLS.out; have h2 := HLEN.out; omega
          have hn1 : n1 ≤ 1048576 := by omega
          have hn2 : n2 ≤ 1048576 := by omega
          have hwsum : IntKind.i64.wrap ((n1 : Int) + (n2 : Int)) = (n : Int) := by rw [IntKind.wrap_i64]; omega
          clear hn1e hn2e hsum
          obtain ⟨hPO1, hPO2, _, _⟩ := HPO.out
          have HPO1 := Lib.hid hPO1; have HPO2 := Lib.hid hPO2; clear hPO1 hPO2
          replace e0 := keepcell e0 hBx
          replace e1 := keepcell e1 hBx
          replace e2 := keepcell e2 hBx
          replace q0 := keepcell q0 hBx
          replace q1 := keepcell q1 hBx
          have hRx := HRR.out.below hBx
          go_wp2_with fail
          refine wp_region_held_drew (S := fun v => v.cell? ⟨jb, 0, none⟩ = some (.int .i64 w) ∧ v.cell? ⟨jb, 1, none⟩ = some (.int .i64 h) ∧ v.cell? ⟨jb, 2, none⟩ = some (.slice A n c) ∧ v.cell? ⟨ja, 0, none⟩ = some (.int .i64 (wA w ⟨up, at'⟩)) ∧ v.cell? ⟨ja, 1, none⟩ = some (.int .i64 (hA h ⟨up, at'⟩)) ∧ v.cell? ⟨ja, 2, none⟩ = some (.slice A1 n1 c1) ∧ v.cell? ⟨jd, 0, none⟩ = some (.int .i64 (wB w ⟨up, at'⟩)) ∧ v.cell? ⟨jd, 1, none⟩ = some (.int .i64 (hB h ⟨up, at'⟩)) ∧ v.cell? ⟨jd, 2, none⟩ = some (.slice A2 n2 c2) ∧ v.cell? ⟨b, off + k * 2, none⟩ = some (.bool up) ∧ v.cell? ⟨b, off + k * 2 + 1, none⟩ = some (.int .i64 at')) (by kernel_rfl) ⟨keep_drew e0, keep_drew e1, keep_drew e2, keep_drew ya0, keep_drew ya1, keep_drew ya2, keep_drew yd0, keep_drew yd1, keep_drew yd2, keep_drew q0, keep_drew q1⟩ (fun hHeld => ?_)
          replace hBx : Below wr.heap.size wr (World.drew wc) := hBx.drew
          replace hRx : Rd (World.drew wc) A n 5 ps patchC := hRx
          replace hPA : Rd (World.drew wc) A1 n1 5 (partA ⟨up, at'⟩ ps) patchC := hPA
          replace hPB : Rd (World.drew wc) A2 n2 5 (partB ⟨up, at'⟩ ps) patchC := hPB
          clear e0 e1 e2 ya0 ya1 ya2 yd0 yd1 yd2 q0 q1
          obtain ⟨u0, hu0⟩ : ∃ v, Hid (World.drew wc = v) := ⟨_, rfl⟩
          rw [hu0.out] at hHeld hBx hRx hPA hPB ⊢
          (refine take_yes (i := 0) (d := some 66) (v := ?_) rfl rfl (by kernel_rfl) (by kernel_rfl) (by kernel_rfl) (by rfl) (fun _ _ _ h => h) ?_ (by assumption) ?_; rotate_left; focus ((intro w' hSw; (try dsimp only at hSw); go_simp) <;> with_reducible rfl)); (try simp only [Act.put, List.setIfInBounds_toArray, List.set_cons_zero, List.set_cons_succ])
          (refine take_yes (i := 1) (d := some 67) (v := ?_) rfl rfl (by kernel_rfl) (by kernel_rfl) (by kernel_rfl) (by rfl) (fun _ _ _ h => h) ?_ (by assumption) ?_; rotate_left; focus ((intro w' hSw; (try dsimp only at hSw); go_simp) <;> with_reducible rfl)); (try simp only [Act.put, List.setIfInBounds_toArray, List.set_cons_zero, List.set_cons_succ])
          (refine take_yes (i := 2) (d := some 68) (v := ?_) rfl rfl (by kernel_rfl) (by kernel_rfl) (by kernel_rfl) (by rfl) (fun _ _ _ h => h) ?_ (by assumption) ?_; rotate_left; focus ((intro w' hSw; (try dsimp only at hSw); go_simp) <;> with_reducible rfl)); (try simp only [Act.put, List.setIfInBounds_toArray, List.set_cons_zero, List.set_cons_succ])
          (refine take_yes (i := 3) (d := some 69) (v := ?_) rfl rfl (by kernel_rfl) (by kernel_rfl) (by kernel_rfl) (by rfl) (fun _ _ _ h => h) ?_ (by assumption) ?_; rotate_left; focus ((intro w' hSw; (try dsimp only at hSw); go_simp) <;> with_reducible rfl)); (try simp only [Act.put, List.setIfInBounds_toArray, List.set_cons_zero, List.set_cons_succ])
          (refine take_yes (i := 4) (d := some 70) (v := ?_) rfl rfl (by kernel_rfl) (by kernel_rfl) (by kernel_rfl) (by rfl) (fun _ _ _ h => h) ?_ (by assumption) ?_; rotate_left; focus ((intro w' hSw; (try dsimp only at hSw); go_simp) <;> with_reducible rfl)); (try simp only [Act.put, List.setIfInBounds_toArray, List.set_cons_zero, List.set_cons_succ])
          (refine take_yes (i := 5) (d := some 71) (v := ?_) rfl rfl (by kernel_rfl) (by kernel_rfl) (by kernel_rfl) (by rfl) (fun _ _ _ h => h) ?_ (by assumption) ?_; rotate_left; focus ((intro w' hSw; (try dsimp only at hSw); go_simp) <;> with_reducible rfl)); (try simp only [Act.put, List.setIfInBounds_toArray, List.set_cons_zero, List.set_cons_succ])
          (refine take_yes (i := 6) (d := some 72) (v := ?_) rfl rfl (by kernel_rfl) (by kernel_rfl) (by kernel_rfl) (by rfl) (fun _ _ _ h => h) ?_ (by assumption) ?_; rotate_left; focus ((intro w' hSw; (try dsimp only at hSw); go_simp) <;> with_reducible rfl)); (try simp only [Act.put, List.setIfInBounds_toArray, List.set_cons_zero, List.set_cons_succ])
          (refine take_yes (i := 7) (d := some 73) (v := ?_) rfl rfl (by kernel_rfl) (by kernel_rfl) (by kernel_rfl) (by rfl) (fun _ _ _ h => h) ?_ (by assumption) ?_; rotate_left; focus ((intro w' hSw; (try dsimp only at hSw); go_simp) <;> with_reducible rfl)); (try simp only [Act.put, List.setIfInBounds_toArray, List.set_cons_zero, List.set_cons_succ])
          refine wpAnyH_ready (rs := [8]) (by kernel_rfl) (by simp) ?_; refine AllReadyH.cons (o := _) rfl (fun K hK => ?_) AllReadyH.nil; go_simp; (go_at_call 57; refine (isCutI_any w h A n c ps up at' _ hRx hN).mono ?_; rw [HK.out]; rintro e u1 ⟨rfl, bb1⟩)
          refine hK.out _ _ ⟨keepcell (hHeld.1) bb1, keepcell (hHeld.2.1) bb1, keepcell (hHeld.2.2.1) bb1, keepcell (hHeld.2.2.2.1) bb1, keepcell (hHeld.2.2.2.2.1) bb1, keepcell (hHeld.2.2.2.2.2.1) bb1, keepcell (hHeld.2.2.2.2.2.2.1) bb1, keepcell (hHeld.2.2.2.2.2.2.2.1) bb1, keepcell (hHeld.2.2.2.2.2.2.2.2.1) bb1, keepcell (hHeld.2.2.2.2.2.2.2.2.2.1) bb1, keepcell (hHeld.2.2.2.2.2.2.2.2.2.2) bb1⟩ (fun hHeld => ?_)
          clear hK K; (try simp only [Act.put, List.setIfInBounds_toArray, List.set_cons_zero, List.set_cons_succ])
          replace hBx := hBx.trans (bb1.mono hBx.size)
          replace hRx := hRx.below bb1
          replace hPA := hPA.below bb1
          replace hPB := hPB.below bb1
          clear bb1
          (refine take_yes (i := 9) (d := some 75) (v := ?_) rfl rfl (by kernel_rfl) (by kernel_rfl) (by kernel_rfl) (by rfl) (fun _ _ _ h => h) ?_ (by assumption) ?_; rotate_left; focus ((intro w' hSw; (try dsimp only at hSw); go_simp) <;> with_reducible rfl)); (try simp only [Act.put, List.setIfInBounds_toArray, List.set_cons_zero, List.set_cons_succ])
          (refine take_yes (i := 10) (d := some 76) (v := ?_) rfl rfl (by kernel_rfl) (by kernel_rfl) (by kernel_rfl) (by rfl) (fun _ _ _ h => h) ?_ (by assumption) ?_; rotate_left; focus ((intro w' hSw; (try dsimp only at hSw); go_simp) <;> with_reducible rfl)); (try simp only [Act.put, List.setIfInBounds_toArray, List.set_cons_zero, List.set_cons_succ])
          (refine take_yes (i := 11) (d := some 77) (v := ?_) rfl rfl (by kernel_rfl) (by kernel_rfl) (by kernel_rfl) (by rfl) (fun _ _ _ h => h) ?_ (by assumption) ?_; rotate_left; focus ((intro w' hSw; (try dsimp only at hSw); go_simp) <;> with_reducible rfl)); (try simp only [Act.put, List.setIfInBounds_toArray, List.set_cons_zero, List.set_cons_succ])
          (refine take_yes (i := 12) (d := some 78) (v := ?_) rfl rfl (by kernel_rfl) (by kernel_rfl) (by kernel_rfl) (by rfl) (fun _ _ _ h => h) ?_ (by assumption) ?_; rotate_left; focus ((intro w' hSw; (try dsimp only at hSw); go_simp) <;> with_reducible rfl)); (try simp only [Act.put, List.setIfInBounds_toArray, List.set_cons_zero, List.set_cons_succ])
          refine wpAnyH_ready (rs := [13]) (by kernel_rfl) (by simp) ?_; refine AllReadyH.cons (o := _) rfl (fun K hK => ?_) AllReadyH.nil; go_simp; (go_at_call 58; refine (layoutS_any (wA w ⟨up, at'⟩) (hA h ⟨up, at'⟩) A1 n1 c1 (partA ⟨up, at'⟩ ps) _ hPA hn1).mono ?_; rw [HPO1.out]; rintro e u2 ⟨rfl, bb2⟩)
          refine hK.out _ _ ⟨keepcell (hHeld.1) bb2, keepcell (hHeld.2.1) bb2, keepcell (hHeld.2.2.1) bb2, keepcell (hHeld.2.2.2.1) bb2, keepcell (hHeld.2.2.2.2.1) bb2, keepcell (hHeld.2.2.2.2.2.1) bb2, keepcell (hHeld.2.2.2.2.2.2.1) bb2, keepcell (hHeld.2.2.2.2.2.2.2.1) bb2, keepcell (hHeld.2.2.2.2.2.2.2.2.1) bb2, keepcell (hHeld.2.2.2.2.2.2.2.2.2.1) bb2, keepcell (hHeld.2.2.2.2.2.2.2.2.2.2) bb2⟩ (fun hHeld => ?_)
          clear hK K; (try simp only [Act.put, List.setIfInBounds_toArray, List.set_cons_zero, List.set_cons_succ])
          replace hBx := hBx.trans (bb2.mono hBx.size)
          replace hRx := hRx.below bb2
          replace hPA := hPA.below bb2
          replace hPB := hPB.below bb2
          clear bb2
          (refine take_yes (i := 14) (d := some 80) (v := ?_) rfl rfl (by kernel_rfl) (by kernel_rfl) (by kernel_rfl) (by rfl) (fun _ _ _ h => h) ?_ (by assumption) ?_; rotate_left; focus ((intro w' hSw; (try dsimp only at hSw); go_simp) <;> with_reducible rfl)); (try simp only [Act.put, List.setIfInBounds_toArray, List.set_cons_zero, List.set_cons_succ])
          (refine take_yes (i := 15) (d := some 81) (v := ?_) rfl rfl (by kernel_rfl) (by kernel_rfl) (by kernel_rfl) (by rfl) (fun _ _ _ h => h) ?_ (by assumption) ?_; rotate_left; focus ((intro w' hSw; (try dsimp only at hSw); go_simp) <;> with_reducible rfl)); (try simp only [Act.put, List.setIfInBounds_toArray, List.set_cons_zero, List.set_cons_succ])
          (refine take_yes (i := 16) (d := some 82) (v := ?_) rfl rfl (by kernel_rfl) (by kernel_rfl) (by kernel_rfl) (by rfl) (fun _ _ _ h => h) ?_ (by assumption) ?_; rotate_left; focus ((intro w' hSw; (try dsimp only at hSw); go_simp) <;> with_reducible rfl)); (try simp only [Act.put, List.setIfInBounds_toArray, List.set_cons_zero, List.set_cons_succ])
          (refine take_yes (i := 17) (d := some 83) (v := ?_) rfl rfl (by kernel_rfl) (by kernel_rfl) (by kernel_rfl) (by rfl) (fun _ _ _ h => h) ?_ (by assumption) ?_; rotate_left; focus ((intro w' hSw; (try dsimp only at hSw); go_simp) <;> with_reducible rfl)); (try simp only [Act.put, List.setIfInBounds_toArray, List.set_cons_zero, List.set_cons_succ])
          refine wpAnyH_ready (rs := [18]) (by kernel_rfl) (by simp) ?_; refine AllReadyH.cons (o := _) rfl (fun K hK => ?_) AllReadyH.nil; go_simp; (go_at_call 58; refine (layoutS_any (wB w ⟨up, at'⟩) (hB h ⟨up, at'⟩) A2 n2 c2 (partB ⟨up, at'⟩ ps) _ hPB hn2).mono ?_; rw [HPO2.out]; rintro e u3 ⟨rfl, bb3⟩)
          refine hK.out _ _ ⟨keepcell (hHeld.1) bb3, keepcell (hHeld.2.1) bb3, keepcell (hHeld.2.2.1) bb3, keepcell (hHeld.2.2.2.1) bb3, keepcell (hHeld.2.2.2.2.1) bb3, keepcell (hHeld.2.2.2.2.2.1) bb3, keepcell (hHeld.2.2.2.2.2.2.1) bb3, keepcell (hHeld.2.2.2.2.2.2.2.1) bb3, keepcell (hHeld.2.2.2.2.2.2.2.2.1) bb3, keepcell (hHeld.2.2.2.2.2.2.2.2.2.1) bb3, keepcell (hHeld.2.2.2.2.2.2.2.2.2.2) bb3⟩ (fun hHeld => ?_)
          clear hK K; (try simp only [Act.put, List.setIfInBounds_toArray, List.set_cons_zero, List.set_cons_succ])
          replace hBx := hBx.trans (bb3.mono hBx.size)
          replace hRx := hRx.below bb3
          replace hPA := hPA.below bb3
          replace hPB := hPB.below bb3
          clear bb3
          (refine take_yes (i := 19) (d := some 85) (v := ?_) rfl rfl (by kernel_rfl) (by kernel_rfl) (by kernel_rfl) (by rfl) (fun _ _ _ h => h) ?_ (by assumption) ?_; rotate_left; focus ((intro w' hSw; (try dsimp only at hSw); go_simp) <;> with_reducible rfl)); (try simp only [Act.put, List.setIfInBounds_toArray, List.set_cons_zero, List.set_cons_succ])
          (refine take_yes (i := 20) (d := some 86) (v := ?_) rfl rfl (by kernel_rfl) (by kernel_rfl) (by kernel_rfl) (by rfl) (fun _ _ _ h => h) ?_ (by assumption) ?_; rotate_left; focus ((intro w' hSw; (try dsimp only at hSw); go_simp) <;> with_reducible rfl)); (try simp only [Act.put, List.setIfInBounds_toArray, List.set_cons_zero, List.set_cons_succ])
          (refine take_yes (i := 21) (d := some 87) (v := ?_) rfl rfl (by kernel_rfl) (by kernel_rfl) (by kernel_rfl) (by rfl) (fun _ _ _ h => h) ?_ (by assumption) ?_; rotate_left; focus ((intro w' hSw; (try dsimp only at hSw); go_simp) <;> with_reducible rfl)); (try simp only [Act.put, List.setIfInBounds_toArray, List.set_cons_zero, List.set_cons_succ])
          (refine take_yes (i := 22) (d := some 88) (v := ?_) rfl rfl (by kernel_rfl) (by kernel_rfl) (by kernel_rfl) (by rfl) (fun _ _ _ h => h) ?_ (by assumption) ?_; rotate_left; focus ((intro w' hSw; (try dsimp only at hSw); go_simp) <;> with_reducible rfl)); (try simp only [Act.put, List.setIfInBounds_toArray, List.set_cons_zero, List.set_cons_succ])
          (refine take_yes (i := 23) (d := some 89) (v := ?_) rfl rfl (by kernel_rfl) (by kernel_rfl) (by kernel_rfl) (by rfl) (fun _ _ _ h => h) ?_ (by assumption) ?_; rotate_left; focus ((intro w' hSw; (try dsimp only at hSw); go_simp) <;> with_reducible rfl)); (try simp only [Act.put, List.setIfInBounds_toArray, List.set_cons_zero, List.set_cons_succ])
          (refine take_yes (i := 24) (d := some 90) (v := ?_) rfl rfl (by kernel_rfl) (by kernel_rfl) (by kernel_rfl) (by rfl) (fun _ _ _ h => h) ?_ (by assumption) ?_; rotate_left; focus ((intro w' hSw; (try dsimp only at hSw); go_simp) <;> with_reducible rfl)); (try simp only [Act.put, List.setIfInBounds_toArray, List.set_cons_zero, List.set_cons_succ])
          (refine take_yes (i := 25) (d := some 91) (v := ?_) rfl rfl (by kernel_rfl) (by kernel_rfl) (by kernel_rfl) (by rfl) (fun _ _ _ h => h) ?_ (by assumption) ?_; rotate_left; focus ((intro w' hSw; (try dsimp only at hSw); go_simp) <;> with_reducible rfl)); (try simp only [Act.put, List.setIfInBounds_toArray, List.set_cons_zero, List.set_cons_succ])
          (refine take_yes (i := 26) (d := some 92) (v := ?_) rfl rfl (by kernel_rfl) (by kernel_rfl) (by kernel_rfl) (by rfl) (fun _ _ _ h => h) ?_ (by assumption) ?_; rotate_left; focus ((intro w' hSw; (try dsimp only at hSw); go_simp) <;> with_reducible rfl)); (try simp only [Act.put, List.setIfInBounds_toArray, List.set_cons_zero, List.set_cons_succ])
          (refine take_yes (i := 27) (d := some 93) (v := ?_) rfl rfl (by kernel_rfl) (by kernel_rfl) (by kernel_rfl) (by rfl) (fun _ _ _ h => h) ?_ (by assumption) ?_; rotate_left; focus ((intro w' hSw; (try dsimp only at hSw); go_simp) <;> with_reducible rfl)); (try simp only [Act.put, List.setIfInBounds_toArray, List.set_cons_zero, List.set_cons_succ])
          (refine take_yes (i := 28) (d := some 94) (v := ?_) rfl rfl (by kernel_rfl) (by kernel_rfl) (by kernel_rfl) (by rfl) (fun _ _ _ h => h) ?_ (by assumption) ?_; rotate_left; focus ((intro w' hSw; (try dsimp only at hSw); go_simp) <;> with_reducible rfl)); (try simp only [Act.put, List.setIfInBounds_toArray, List.set_cons_zero, List.set_cons_succ])
          (refine take_yes (i := 29) (d := some 95) (v := ?_) rfl rfl (by kernel_rfl) (by kernel_rfl) (by kernel_rfl) (by rfl) (fun _ _ _ h => h) ?_ (by assumption) ?_; rotate_left; focus ((intro w' hSw; (try dsimp only at hSw); go_simp) <;> with_reducible rfl)); (try simp only [Act.put, List.setIfInBounds_toArray, List.set_cons_zero, List.set_cons_succ])
          (refine take_yes (i := 30) (d := some 96) (v := ?_) rfl rfl (by kernel_rfl) (by kernel_rfl) (by kernel_rfl) (by rfl) (fun _ _ _ h => h) ?_ (by assumption) ?_; rotate_left; focus ((intro w' hSw; (try dsimp only at hSw); go_simp) <;> with_reducible rfl)); (try simp only [Act.put, List.setIfInBounds_toArray, List.set_cons_zero, List.set_cons_succ])
          (refine take_yes (i := 31) (d := some 97) (v := ?_) rfl rfl (by kernel_rfl) (by kernel_rfl) (by kernel_rfl) (by rfl) (fun _ _ _ h => h) ?_ (by assumption) ?_; rotate_left; focus ((intro w' hSw; (try dsimp only at hSw); go_simp) <;> with_reducible rfl)); (try simp only [Act.put, List.setIfInBounds_toArray, List.set_cons_zero, List.set_cons_succ])
          (refine take_yes (i := 32) (d := some 98) (v := ?_) rfl rfl (by kernel_rfl) (by kernel_rfl) (by kernel_rfl) (by rfl) (fun _ _ _ h => h) ?_ (by assumption) ?_; rotate_left; focus ((intro w' hSw; (try dsimp only at hSw); go_simp) <;> with_reducible rfl)); (try simp only [Act.put, List.setIfInBounds_toArray, List.set_cons_zero, List.set_cons_succ])
          (refine take_yes (i := 33) (d := some 99) (v := ?_) rfl rfl (by kernel_rfl) (by kernel_rfl) (by kernel_rfl) (by rfl) (fun _ _ _ h => h) ?_ (by assumption) ?_; rotate_left; focus ((intro w' hSw; (try dsimp only at hSw); go_simp) <;> with_reducible rfl)); (try simp only [Act.put, List.setIfInBounds_toArray, List.set_cons_zero, List.set_cons_succ])
          (refine take_yes (i := 34) (d := some 100) (v := ?_) rfl rfl (by kernel_rfl) (by kernel_rfl) (by kernel_rfl) (by rfl) (fun _ _ _ h => h) ?_ (by assumption) ?_; rotate_left; focus ((intro w' hSw; (try dsimp only at hSw); go_simp) <;> with_reducible rfl)); (try simp only [Act.put, List.setIfInBounds_toArray, List.set_cons_zero, List.set_cons_succ])
          (refine take_yes (i := 35) (d := some 101) (v := ?_) rfl rfl (by kernel_rfl) (by kernel_rfl) (by kernel_rfl) (by rfl) (fun _ _ _ h => h) ?_ (by assumption) ?_; rotate_left; focus ((intro w' hSw; (try dsimp only at hSw); go_simp) <;> with_reducible rfl)); (try simp only [Act.put, List.setIfInBounds_toArray, List.set_cons_zero, List.set_cons_succ])
          (refine take_yes (i := 41) (d := some 107) (v := ?_) rfl rfl (by kernel_rfl) (by kernel_rfl) (by kernel_rfl) (by rfl) (fun _ _ _ h => h) ?_ (by assumption) ?_; rotate_left; focus ((intro w' hSw; (try dsimp only at hSw); go_simp) <;> with_reducible rfl)); (try simp only [Act.put, List.setIfInBounds_toArray, List.set_cons_zero, List.set_cons_succ])
          have hab := HAB.out
          rcases hsa : canSew ⟨wA w ⟨up, at'⟩, hA h ⟨up, at'⟩, partA ⟨up, at'⟩ ps⟩ with _ | _
          · rw [hsa] at hab
            have HSA := Lib.hid hsa
            clear hsa hab
            refine wpAnyH_ready (rs := [36]) (by kernel_rfl) (by simp) ?_; refine AllReadyH.cons (o := _) rfl (fun K hK => ?_) AllReadyH.nil; go_simp; (go_at_call 52; refine (canSewI_any (wA w ⟨up, at'⟩) (hA h ⟨up, at'⟩) A1 n1 c1 (partA ⟨up, at'⟩ ps) _ hPA hn1).mono ?_; rw [HSA.out]; rintro e u4 ⟨rfl, bb4⟩)
            refine hK.out _ _ ⟨keepcell (hHeld.1) bb4, keepcell (hHeld.2.1) bb4, keepcell (hHeld.2.2.1) bb4, keepcell (hHeld.2.2.2.1) bb4, keepcell (hHeld.2.2.2.2.1) bb4, keepcell (hHeld.2.2.2.2.2.1) bb4, keepcell (hHeld.2.2.2.2.2.2.1) bb4, keepcell (hHeld.2.2.2.2.2.2.2.1) bb4, keepcell (hHeld.2.2.2.2.2.2.2.2.1) bb4, keepcell (hHeld.2.2.2.2.2.2.2.2.2.1) bb4, keepcell (hHeld.2.2.2.2.2.2.2.2.2.2) bb4⟩ (fun hHeld => ?_)
            clear hK K; (try simp only [Act.put, List.setIfInBounds_toArray, List.set_cons_zero, List.set_cons_succ])
            replace hBx := hBx.trans (bb4.mono hBx.size)
            replace hRx := hRx.below bb4
            replace hPA := hPA.below bb4
            replace hPB := hPB.below bb4
            clear bb4
            (refine take_yes (i := 37) (d := some 103) (v := ?_) rfl rfl (by kernel_rfl) (by kernel_rfl) (by kernel_rfl) (by rfl) (fun _ _ _ h => h) ?_ (by assumption) ?_; rotate_left; focus ((intro w' hSw; (try dsimp only at hSw); go_simp) <;> with_reducible rfl)); (try simp only [Act.put, List.setIfInBounds_toArray, List.set_cons_zero, List.set_cons_succ])
            refine take_no (i := 38) (d := some 104) rfl rfl (by kernel_rfl) (by kernel_rfl) (by kernel_rfl) (by rfl) (fun _ _ _ h => h) (by assumption) ?_; (try simp only [Act.put, List.setIfInBounds_toArray, List.set_cons_zero, List.set_cons_succ])
            refine take_no (i := 39) (d := some 105) rfl rfl (by kernel_rfl) (by kernel_rfl) (by kernel_rfl) (by rfl) (fun _ _ _ h => h) (by assumption) ?_; (try simp only [Act.put, List.setIfInBounds_toArray, List.set_cons_zero, List.set_cons_succ])
            (refine take_yes (i := 40) (d := some 106) (v := ?_) rfl rfl (by kernel_rfl) (by kernel_rfl) (by kernel_rfl) (by rfl) (fun _ _ _ h => h) ?_ (by assumption) ?_; rotate_left; focus ((intro w' hSw; (try dsimp only at hSw); go_simp) <;> with_reducible rfl)); (try simp only [Act.put, List.setIfInBounds_toArray, List.set_cons_zero, List.set_cons_succ])
            (refine take_yes (i := 42) (d := some 108) (v := ?_) rfl rfl (by kernel_rfl) (by kernel_rfl) (by kernel_rfl) (by rfl) (fun _ _ _ h => h) ?_ (by assumption) ?_; rotate_left; focus ((intro w' hSw; (try dsimp only at hSw); go_simp) <;> with_reducible rfl)); (try simp only [Act.put, List.setIfInBounds_toArray, List.set_cons_zero, List.set_cons_succ])
            (refine take_yes (i := 43) (d := some 109) (v := ?_) rfl rfl (by kernel_rfl) (by kernel_rfl) (by kernel_rfl) (by rfl) (fun _ _ _ h => h) ?_ (by assumption) ?_; rotate_left; focus ((intro w' hSw; (try dsimp only at hSw); go_simp) <;> with_reducible rfl)); (try simp only [Act.put, List.setIfInBounds_toArray, List.set_cons_zero, List.set_cons_succ])
            refine wpAnyH_done (by kernel_rfl) ?_ _
            clear hHeld hwsum
            go_wp2_with fail
            go_roundw
            case rel => exact ⟨k + 1, by omega, by go_num, hBl.trans (hBx.mono hz)⟩
            case measure => simp [intOf]; omega
          · rw [hsa] at hab
            have hsb : canSew ⟨wB w ⟨up, at'⟩, hB h ⟨up, at'⟩, partB ⟨up, at'⟩ ps⟩ = false := by rw [Bool.true_and] at hab; exact hab
            have HSA := Lib.hid hsa; have HSB := Lib.hid hsb
            clear hsa hab hsb
            refine wpAnyH_ready (rs := [36]) (by kernel_rfl) (by simp) ?_; refine AllReadyH.cons (o := _) rfl (fun K hK => ?_) AllReadyH.nil; go_simp; (go_at_call 52; refine (canSewI_any (wA w ⟨up, at'⟩) (hA h ⟨up, at'⟩) A1 n1 c1 (partA ⟨up, at'⟩ ps) _ hPA hn1).mono ?_; rw [HSA.out]; rintro e u4 ⟨rfl, bb4⟩)
            refine hK.out _ _ ⟨keepcell (hHeld.1) bb4, keepcell (hHeld.2.1) bb4, keepcell (hHeld.2.2.1) bb4, keepcell (hHeld.2.2.2.1) bb4, keepcell (hHeld.2.2.2.2.1) bb4, keepcell (hHeld.2.2.2.2.2.1) bb4, keepcell (hHeld.2.2.2.2.2.2.1) bb4, keepcell (hHeld.2.2.2.2.2.2.2.1) bb4, keepcell (hHeld.2.2.2.2.2.2.2.2.1) bb4, keepcell (hHeld.2.2.2.2.2.2.2.2.2.1) bb4, keepcell (hHeld.2.2.2.2.2.2.2.2.2.2) bb4⟩ (fun hHeld => ?_)
            clear hK K; (try simp only [Act.put, List.setIfInBounds_toArray, List.set_cons_zero, List.set_cons_succ])
            replace hBx := hBx.trans (bb4.mono hBx.size)
            replace hRx := hRx.below bb4
            replace hPA := hPA.below bb4
            replace hPB := hPB.below bb4
            clear bb4
            (refine take_yes (i := 37) (d := some 103) (v := ?_) rfl rfl (by kernel_rfl) (by kernel_rfl) (by kernel_rfl) (by rfl) (fun _ _ _ h => h) ?_ (by assumption) ?_; rotate_left; focus ((intro w' hSw; (try dsimp only at hSw); go_simp) <;> with_reducible rfl)); (try simp only [Act.put, List.setIfInBounds_toArray, List.set_cons_zero, List.set_cons_succ])
            (refine take_yes (i := 38) (d := some 104) (v := ?_) rfl rfl (by kernel_rfl) (by kernel_rfl) (by kernel_rfl) (by rfl) (fun _ _ _ h => h) ?_ (by assumption) ?_; rotate_left; focus ((intro w' hSw; (try dsimp only at hSw); go_simp) <;> with_reducible rfl)); (try simp only [Act.put, List.setIfInBounds_toArray, List.set_cons_zero, List.set_cons_succ])
            refine wpAnyH_ready (rs := [39]) (by kernel_rfl) (by simp) ?_; refine AllReadyH.cons (o := _) rfl (fun K hK => ?_) AllReadyH.nil; go_simp; (go_at_call 52; refine (canSewI_any (wB w ⟨up, at'⟩) (hB h ⟨up, at'⟩) A2 n2 c2 (partB ⟨up, at'⟩ ps) _ hPB hn2).mono ?_; rw [HSB.out]; rintro e u5 ⟨rfl, bb5⟩)
            refine hK.out _ _ ⟨keepcell (hHeld.1) bb5, keepcell (hHeld.2.1) bb5, keepcell (hHeld.2.2.1) bb5, keepcell (hHeld.2.2.2.1) bb5, keepcell (hHeld.2.2.2.2.1) bb5, keepcell (hHeld.2.2.2.2.2.1) bb5, keepcell (hHeld.2.2.2.2.2.2.1) bb5, keepcell (hHeld.2.2.2.2.2.2.2.1) bb5, keepcell (hHeld.2.2.2.2.2.2.2.2.1) bb5, keepcell (hHeld.2.2.2.2.2.2.2.2.2.1) bb5, keepcell (hHeld.2.2.2.2.2.2.2.2.2.2) bb5⟩ (fun hHeld => ?_)
            clear hK K; (try simp only [Act.put, List.setIfInBounds_toArray, List.set_cons_zero, List.set_cons_succ])
            replace hBx := hBx.trans (bb5.mono hBx.size)
            replace hRx := hRx.below bb5
            replace hPA := hPA.below bb5
            replace hPB := hPB.below bb5
            clear bb5
            (refine take_yes (i := 40) (d := some 106) (v := ?_) rfl rfl (by kernel_rfl) (by kernel_rfl) (by kernel_rfl) (by rfl) (fun _ _ _ h => h) ?_ (by assumption) ?_; rotate_left; focus ((intro w' hSw; (try dsimp only at hSw); go_simp) <;> with_reducible rfl)); (try simp only [Act.put, List.setIfInBounds_toArray, List.set_cons_zero, List.set_cons_succ])
            (refine take_yes (i := 42) (d := some 108) (v := ?_) rfl rfl (by kernel_rfl) (by kernel_rfl) (by kernel_rfl) (by rfl) (fun _ _ _ h => h) ?_ (by assumption) ?_; rotate_left; focus ((intro w' hSw; (try dsimp only at hSw); go_simp) <;> with_reducible rfl)); (try simp only [Act.put, List.setIfInBounds_toArray, List.set_cons_zero, List.set_cons_succ])
            (refine take_yes (i := 43) (d := some 109) (v := ?_) rfl rfl (by kernel_rfl) (by kernel_rfl) (by kernel_rfl) (by rfl) (fun _ _ _ h => h) ?_ (by assumption) ?_; rotate_left; focus ((intro w' hSw; (try dsimp only at hSw); go_simp) <;> with_reducible rfl)); (try simp only [Act.put, List.setIfInBounds_toArray, List.set_cons_zero, List.set_cons_succ])
            refine wpAnyH_done (by kernel_rfl) ?_ _
            clear hHeld hwsum
            go_wp2_with fail
            go_roundw
            case rel => exact ⟨k + 1, by omega, by go_num, hBl.trans (hBx.mono hz)⟩
            case measure => simp [intOf]; omega
      · obtain rfl : k = M := by omega
        have hRr := hR7.below hBl
        have hBw := hB7.trans (hBl.mono hB7.size)
        have hQr := (hBl.block j6 hj67).trans HQ7.out
        have HKR := Lib.hid (hK7.below hBl)
        clear hBl HP7 HQ7 pr hz hB7 hR7 hC7 hjb7 hj67
        obtain ⟨k0, rfl⟩ := Option.isSome_iff_exists.1 (show kk.isSome = true from HSOME.out)
        have hki := knot_is hkk.out
        have HKO : Hid (layoutOk kW kH k0.ps = true) := by rw [← hkW.out, ← hkH.out]; exact Lib.hid hki.1
        have HKC : Hid (cutsOf kW kH k0.ps = []) := by rw [← hkW.out, ← hkH.out]; exact Lib.hid hki.2.1
        have hK : Rd wr A6 n6 5 k0.ps patchC := HKR.out
        have hn65 : 5 ≤ n6 := by have := hki.2.2; rw [hK.len] at this; exact this
        have hn612 : n6 ≤ 12 := by have := (layout_parts hki.1).2.2.1; rw [hK.len] at this; omega
        have hn6 : n6 ≤ 1048576 := by omega
        have hn6I : ¬ (n6 : Int) < 5 := by omega
        obtain ⟨x0, x1, x2⟩ : (wr.cell? ⟨j6, 0, none⟩ = some (.int .i64 kW)) ∧ (wr.cell? ⟨j6, 1, none⟩ = some (.int .i64 kH)) ∧ wr.cell? ⟨j6, 2, none⟩ = some (.slice A6 n6 c6) := ⟨by rw [cell_of_row _ _ _ _ _ _ hQr]; rfl, by rw [cell_of_row _ _ _ _ _ _ hQr]; rfl, by rw [cell_of_row _ _ _ _ _ _ hQr]; rfl⟩
        clear hki hQr
        go_wp2_with fail
        refine (layoutS_any kW kH A6 n6 c6 k0.ps _ hK hn6).mono ?_
        rw [HKO.out]
        rintro e u1 ⟨rfl, bb1⟩
        replace e0 := keepcell e0 bb1
        replace e1 := keepcell e1 bb1
        replace e2 := keepcell e2 bb1
        replace x0 := keepcell x0 bb1
        replace x1 := keepcell x1 bb1
        replace x2 := keepcell x2 bb1
        replace hBw := hBw.trans (bb1.mono hBw.size)
        replace hRr := hRr.below bb1
        replace hK := hK.below bb1; clear bb1
        go_wp2_with fail
        refine (cutsOfI_any kW kH A6 n6 c6 k0.ps _ hK hn6).mono ?_
        rw [HKC.out]
        rintro e u2 ⟨C9, k9, rfl, hk9, hO9, bb2⟩
        replace e0 := keepcell e0 bb2
        replace e1 := keepcell e1 bb2
        replace e2 := keepcell e2 bb2
        replace x0 := keepcell x0 bb2
        replace x1 := keepcell x1 bb2
        replace x2 := keepcell x2 bb2
        replace hBw := hBw.trans (bb2.mono hBw.size)
        replace hRr := hRr.below bb2
        clear bb2 hK hO9 hk9
        go_wp2_with fail
        refine (sampleI_any _).mono ?_
        rintro e u3 ⟨gs, rfl, hAs, bb3⟩
        replace e0 := keepcell e0 bb3
        replace e1 := keepcell e1 bb3
        replace e2 := keepcell e2 bb3
        replace hBw := hBw.trans (bb3.mono hBw.size)
        replace hRr := hRr.below bb3
        have hRs : Rd u3 (some ⟨gs, 0, none⟩) 5 5 sampleP patchC := acc_rd (xs := sampleP) hAs patchC_len
        clear bb3 hAs
        go_wp2_with fail
        refine (canSewI_any 3 3 (some ⟨gs, 0, none⟩) 5 5 sampleP _ hRs (by omega)).mono ?_
        rw [sample_knot]
        rintro e u4 ⟨rfl, bb4⟩
        replace e0 := keepcell e0 bb4
        replace e1 := keepcell e1 bb4
        replace e2 := keepcell e2 bb4
        replace hBw := hBw.trans (bb4.mono hBw.size)
        replace hRr := hRr.below bb4
        clear bb4 hRs
        go_wp2_with fail
        refine (cutsOfS_any w h A n c ps _ hRr hN).mono ?_
        rw [hM.out]
        rintro e u5 ⟨C10, k10, rfl, hk10, hO10, bb5⟩
        replace hBw := hBw.trans (bb5.mono hBw.size)
        clear bb5 hO10 hRr
        go_wp2_with fail
        go_ret
        exact ⟨rfl, hBw⟩
  · skip
    have hcs := HCS.out
    rw [if_pos rfl] at hcs
    have HCS2 := Lib.hid hcs; clear hcs
    go_wp2_with (rw [hw6.out]; (try rw [hj6.out]))
    refine wp_region_held_drew (S := fun v => v.cell? ⟨jb, 0, none⟩ = some (.int .i64 w) ∧ v.cell? ⟨jb, 1, none⟩ = some (.int .i64 h) ∧ v.cell? ⟨jb, 2, none⟩ = some (.slice A n c)) (by kernel_rfl) ⟨keep_drew e0, keep_drew e1, keep_drew e2⟩ (fun hHeld => ?_)
    have hB7 : Below W.heap.size W (World.drew w6) := hB6.drew
    have hR7 : Rd (World.drew w6) A n 5 ps patchC := hR6
    have hC7 : Rd (World.drew w6) C2 M 2 (cutsOf w h ps) cutC := hC6
    have hK7 : Rd (World.drew w6) A6 n6 5 (kp kk) patchC := hK6
    have q7 : (World.drew w6).heap[j6]? = some (.cells #[.int .i64 kW, .int .i64 kH, .slice A6 n6 c6] 30 (0, 0)) := q6
    have p7 : (World.drew w6).heap[jb]? = some (.cells #[.int .i64 w, .int .i64 h, .slice A n c] 30 (0, 0)) := q6b
    clear e0 e1 e2 hB6 hR6 hC6 hK6 q6 q6b
    obtain ⟨v0, hv0⟩ : ∃ v, Hid (World.drew w6 = v) := ⟨_, rfl⟩
    rw [hv0.out] at hHeld hB7 hR7 hC7 hK7 q7 p7 ⊢
    (refine take_yes (i := 0) (d := some 25) (v := ?_) rfl rfl (by kernel_rfl) (by kernel_rfl) (by kernel_rfl) (by rfl) (fun _ _ _ h => h) ?_ (by assumption) ?_; rotate_left; focus ((intro w' hSw; (try dsimp only at hSw); go_simp) <;> with_reducible rfl)); (try simp only [Act.put, List.setIfInBounds_toArray, List.set_cons_zero, List.set_cons_succ])
    (refine take_yes (i := 1) (d := some 26) (v := ?_) rfl rfl (by kernel_rfl) (by kernel_rfl) (by kernel_rfl) (by rfl) (fun _ _ _ h => h) ?_ (by assumption) ?_; rotate_left; focus ((intro w' hSw; (try dsimp only at hSw); go_simp) <;> with_reducible rfl)); (try simp only [Act.put, List.setIfInBounds_toArray, List.set_cons_zero, List.set_cons_succ])
    (refine take_yes (i := 2) (d := some 27) (v := ?_) rfl rfl (by kernel_rfl) (by kernel_rfl) (by kernel_rfl) (by rfl) (fun _ _ _ h => h) ?_ (by assumption) ?_; rotate_left; focus ((intro w' hSw; (try dsimp only at hSw); go_simp) <;> with_reducible rfl)); (try simp only [Act.put, List.setIfInBounds_toArray, List.set_cons_zero, List.set_cons_succ])
    (refine take_yes (i := 3) (d := some 28) (v := ?_) rfl rfl (by kernel_rfl) (by kernel_rfl) (by kernel_rfl) (by rfl) (fun _ _ _ h => h) ?_ (by assumption) ?_; rotate_left; focus ((intro w' hSw; (try dsimp only at hSw); go_simp) <;> with_reducible rfl)); (try simp only [Act.put, List.setIfInBounds_toArray, List.set_cons_zero, List.set_cons_succ])
    (refine take_yes (i := 4) (d := some 29) (v := ?_) rfl rfl (by kernel_rfl) (by kernel_rfl) (by kernel_rfl) (by rfl) (fun _ _ _ h => h) ?_ (by assumption) ?_; rotate_left; focus ((intro w' hSw; (try dsimp only at hSw); go_simp) <;> with_reducible rfl)); (try simp only [Act.put, List.setIfInBounds_toArray, List.set_cons_zero, List.set_cons_succ])
    (refine take_yes (i := 5) (d := some 30) (v := ?_) rfl rfl (by kernel_rfl) (by kernel_rfl) (by kernel_rfl) (by rfl) (fun _ _ _ h => h) ?_ (by assumption) ?_; rotate_left; focus ((intro w' hSw; (try dsimp only at hSw); go_simp) <;> with_reducible rfl)); (try simp only [Act.put, List.setIfInBounds_toArray, List.set_cons_zero, List.set_cons_succ])
    refine wpAnyH_ready (rs := [6]) (by kernel_rfl) (by simp) ?_; refine AllReadyH.cons (o := _) rfl (fun K hK => ?_) AllReadyH.nil; go_simp; (go_at_call 54; refine (canSewS_any w h A n c ps _ hR7 hN).mono ?_; rw [hcan.out]; rintro e v1 ⟨rfl, bb1⟩)
    refine hK.out _ _ ⟨keepcell (hHeld.1) bb1, keepcell (hHeld.2.1) bb1, keepcell (hHeld.2.2) bb1⟩ (fun hHeld => ?_)
    clear hK K; (try simp only [Act.put, List.setIfInBounds_toArray, List.set_cons_zero, List.set_cons_succ])
    replace hB7 := hB7.trans (bb1.mono hB7.size)
    replace hR7 := hR7.below bb1
    replace hC7 := hC7.below bb1
    replace hK7 := hK7.below bb1
    replace q7 := (bb1.block _ (heap_lt q7)).trans q7
    replace p7 := (bb1.block _ (heap_lt p7)).trans p7
    clear bb1
    (refine take_yes (i := 7) (d := some 32) (v := ?_) rfl rfl (by kernel_rfl) (by kernel_rfl) (by kernel_rfl) (by rfl) (fun _ _ _ h => h) ?_ (by assumption) ?_; rotate_left; focus ((intro w' hSw; (try dsimp only at hSw); go_simp) <;> with_reducible rfl)); (try simp only [Act.put, List.setIfInBounds_toArray, List.set_cons_zero, List.set_cons_succ])
    (refine take_yes (i := 8) (d := some 33) (v := ?_) rfl rfl (by kernel_rfl) (by kernel_rfl) (by kernel_rfl) (by rfl) (fun _ _ _ h => h) ?_ (by assumption) ?_; rotate_left; focus ((intro w' hSw; (try dsimp only at hSw); go_simp) <;> with_reducible rfl)); (try simp only [Act.put, List.setIfInBounds_toArray, List.set_cons_zero, List.set_cons_succ])
    (refine take_yes (i := 9) (d := some 34) (v := ?_) rfl rfl (by kernel_rfl) (by kernel_rfl) (by kernel_rfl) (by rfl) (fun _ _ _ h => h) ?_ (by assumption) ?_; rotate_left; focus ((intro w' hSw; (try dsimp only at hSw); go_simp) <;> with_reducible rfl)); (try simp only [Act.put, List.setIfInBounds_toArray, List.set_cons_zero, List.set_cons_succ])
    (refine take_yes (i := 10) (d := some 35) (v := ?_) rfl rfl (by kernel_rfl) (by kernel_rfl) (by kernel_rfl) (by rfl) (fun _ _ _ h => h) ?_ (by assumption) ?_; rotate_left; focus ((intro w' hSw; (try dsimp only at hSw); go_simp) <;> with_reducible rfl)); (try simp only [Act.put, List.setIfInBounds_toArray, List.set_cons_zero, List.set_cons_succ])
    (refine take_yes (i := 12) (d := some 37) (v := ?_) rfl rfl (by kernel_rfl) (by kernel_rfl) (by kernel_rfl) (by rfl) (fun _ _ _ h => h) ?_ (by assumption) ?_; rotate_left; focus ((intro w' hSw; (try dsimp only at hSw); go_simp) <;> with_reducible rfl)); (try simp only [Act.put, List.setIfInBounds_toArray, List.set_cons_zero, List.set_cons_succ])
    (refine take_yes (i := 13) (d := some 38) (v := ?_) rfl rfl (by kernel_rfl) (by kernel_rfl) (by kernel_rfl) (by rfl) (fun _ _ _ h => h) ?_ (by assumption) ?_; rotate_left; focus ((intro w' hSw; (try dsimp only at hSw); go_simp) <;> with_reducible rfl)); (try simp only [Act.put, List.setIfInBounds_toArray, List.set_cons_zero, List.set_cons_succ])
    (refine take_yes (i := 14) (d := some 39) (v := ?_) rfl rfl (by kernel_rfl) (by kernel_rfl) (by kernel_rfl) (by rfl) (fun _ _ _ h => h) ?_ (by assumption) ?_; rotate_left; focus ((intro w' hSw; (try dsimp only at hSw); go_simp) <;> with_reducible rfl)); (try simp only [Act.put, List.setIfInBounds_toArray, List.set_cons_zero, List.set_cons_succ])
    (refine take_yes (i := 15) (d := some 40) (v := ?_) rfl rfl (by kernel_rfl) (by kernel_rfl) (by kernel_rfl) (by rfl) (fun _ _ _ h => h) ?_ (by assumption) ?_; rotate_left; focus ((intro w' hSw; (try dsimp only at hSw); go_simp) <;> with_reducible rfl)); (try simp only [Act.put, List.setIfInBounds_toArray, List.set_cons_zero, List.set_cons_succ])
    (refine take_yes (i := 16) (d := some 41) (v := ?_) rfl rfl (by kernel_rfl) (by kernel_rfl) (by kernel_rfl) (by rfl) (fun _ _ _ h => h) ?_ (by assumption) ?_; rotate_left; focus ((intro w' hSw; (try dsimp only at hSw); go_simp) <;> with_reducible rfl)); (try simp only [Act.put, List.setIfInBounds_toArray, List.set_cons_zero, List.set_cons_succ])
    (refine take_yes (i := 19) (d := some 44) (v := ?_) rfl rfl (by kernel_rfl) (by kernel_rfl) (by kernel_rfl) (by rfl) (fun _ _ _ h => h) ?_ (by assumption) ?_; rotate_left; focus ((intro w' hSw; (try dsimp only at hSw); go_simp) <;> with_reducible rfl)); (try simp only [Act.put, List.setIfInBounds_toArray, List.set_cons_zero, List.set_cons_succ])
    (refine take_yes (i := 20) (d := some 45) (v := ?_) rfl rfl (by kernel_rfl) (by kernel_rfl) (by kernel_rfl) (by rfl) (fun _ _ _ h => h) ?_ (by assumption) ?_; rotate_left; focus ((intro w' hSw; (try dsimp only at hSw); go_simp) <;> with_reducible rfl)); (try simp only [Act.put, List.setIfInBounds_toArray, List.set_cons_zero, List.set_cons_succ])
    refine wpAnyH_ready (rs := [11]) (by kernel_rfl) (by simp) ?_; refine AllReadyH.cons (o := _) rfl (fun K hK => ?_) AllReadyH.nil; go_simp; (go_at_call 44; refine (countI_any w h A n c ps _ hR7 hN).mono ?_; rw [HCS2.out]; rintro e v2 ⟨rfl, bb2⟩)
    refine hK.out _ _ ⟨keepcell (hHeld.1) bb2, keepcell (hHeld.2.1) bb2, keepcell (hHeld.2.2) bb2⟩ (fun hHeld => ?_)
    clear hK K; (try simp only [Act.put, List.setIfInBounds_toArray, List.set_cons_zero, List.set_cons_succ])
    replace hB7 := hB7.trans (bb2.mono hB7.size)
    replace hR7 := hR7.below bb2
    replace hC7 := hC7.below bb2
    replace hK7 := hK7.below bb2
    replace q7 := (bb2.block _ (heap_lt q7)).trans q7
    replace p7 := (bb2.block _ (heap_lt p7)).trans p7
    clear bb2
    refine wpAnyH_ready (rs := [17]) (by kernel_rfl) (by simp) ?_; refine AllReadyH.cons (o := _) rfl (fun K hK => ?_) AllReadyH.nil; go_simp; (go_at_call 55; refine (btoi_any _ _).mono ?_; rintro e v ⟨rfl, rfl⟩)
    refine hK.out _ _ hHeld (fun hHeld => ?_)
    clear hK K; (try simp only [Act.put, List.setIfInBounds_toArray, List.set_cons_zero, List.set_cons_succ])
    (try simp only [Bool.false_eq_true, if_false, if_true])
    (refine take_yes (i := 18) (d := some 43) (v := ?_) rfl rfl (by kernel_rfl) (by kernel_rfl) (by kernel_rfl) (by rfl) (fun _ _ _ h => h) ?_ (by assumption) ?_; rotate_left; focus ((intro w' hSw; (try dsimp only at hSw); go_simp) <;> with_reducible rfl)); (try simp only [Act.put, List.setIfInBounds_toArray, List.set_cons_zero, List.set_cons_succ])
    refine wpAnyH_ready (rs := [21]) (by kernel_rfl) (by simp) ?_; refine AllReadyH.cons (o := _) rfl (fun K hK => ?_) AllReadyH.nil; go_simp; (go_at_call 55; refine (btoi_any _ _).mono ?_; rintro e v ⟨rfl, rfl⟩)
    refine hK.out _ _ hHeld (fun hHeld => ?_)
    clear hK K; (try simp only [Act.put, List.setIfInBounds_toArray, List.set_cons_zero, List.set_cons_succ])
    (try simp only [Bool.false_eq_true, if_false, if_true, Bool.not_true, Bool.not_false])
    (refine take_yes (i := 22) (d := some 47) (v := ?_) rfl rfl (by kernel_rfl) (by kernel_rfl) (by kernel_rfl) (by rfl) (fun _ _ _ h => h) ?_ (by assumption) ?_; rotate_left; focus ((intro w' hSw; (try dsimp only at hSw); go_simp) <;> with_reducible rfl)); (try simp only [Act.put, List.setIfInBounds_toArray, List.set_cons_zero, List.set_cons_succ])
    (refine take_yes (i := 23) (d := some 48) (v := ?_) rfl rfl (by kernel_rfl) (by kernel_rfl) (by kernel_rfl) (by rfl) (fun _ _ _ h => h) ?_ (by assumption) ?_; rotate_left; focus ((intro w' hSw; (try dsimp only at hSw); go_simp) <;> with_reducible rfl)); (try simp only [Act.put, List.setIfInBounds_toArray, List.set_cons_zero, List.set_cons_succ])
    (refine take_yes (i := 24) (d := some 49) (v := ?_) rfl rfl (by kernel_rfl) (by kernel_rfl) (by kernel_rfl) (by rfl) (fun _ _ _ h => h) ?_ (by assumption) ?_; rotate_left; focus ((intro w' hSw; (try dsimp only at hSw); go_simp) <;> with_reducible rfl)); (try simp only [Act.put, List.setIfInBounds_toArray, List.set_cons_zero, List.set_cons_succ])
    refine wpAnyH_done (by kernel_rfl) ?_ _
    clear hw1
    go_wp2_with fail
    have HP7 := Lib.hid p7; have HQ7 := Lib.hid q7; have hjb7 := heap_lt p7; have hj67 := heap_lt q7; clear hHeld p7 q7
    go_loopw [8] (fun i wr => ∃ k : Nat, k ≤ M ∧ i = .int .i64 (k : Int) ∧ Below v2.heap.size v2 wr) (fun i _ => M - (intOf i).toNat)
    case atStart => exact ⟨0, by omega, rfl, Below.refl _ _⟩
    case round =>
      obtain ⟨k, hk, rfl, hBl⟩ := hrel
      have hz := hBl.size
      have pr := (hBl.block jb hjb7).trans HP7.out
      obtain ⟨e0, e1, e2⟩ : (wr.cell? ⟨jb, 0, none⟩ = some (.int .i64 w)) ∧ (wr.cell? ⟨jb, 1, none⟩ = some (.int .i64 h)) ∧ wr.cell? ⟨jb, 2, none⟩ = some (.slice A n c) := ⟨by rw [cell_of_row _ _ _ _ _ _ pr]; rfl, by rw [cell_of_row _ _ _ _ _ _ pr]; rfl, by rw [cell_of_row _ _ _ _ _ _ pr]; rfl⟩
      by_cases hlt : k < M
      · obtain ⟨b, off, x, rfl, hbW, hx, q0, q1⟩ := hC7.cut hlt hBl
        replace hbW := Nat.lt_of_lt_of_le hbW hz
        have hcut := mem_cuts.1 (List.mem_of_getElem? hx)
        obtain ⟨up, at'⟩ := x
        simp only at q0 q1
        have HK := Lib.hid hcut
        have hab := sew_any ps.length ⟨w, h, ps⟩ (Nat.le_refl _) ⟨up, at'⟩ hcut
        rw [hcan.out] at hab
        have hab' : (canSew ⟨wA w ⟨up, at'⟩, hA h ⟨up, at'⟩, partA ⟨up, at'⟩ ps⟩ && canSew ⟨wB w ⟨up, at'⟩, hB h ⟨up, at'⟩, partB ⟨up, at'⟩ ps⟩) = true := hab
        have HAB := Lib.hid hab'
        have HPO := Lib.hid (parts_ok hcut)
        have HLS := Lib.hid (len_split ⟨up, at'⟩ ps)
        have hkM : (k : Int) < (M : Int) := by omega
        have hRr := hR7.below hBl
        have hCr := hC7.below hBl
        have HRR := Lib.hid hRr; have HCR := Lib.hid hCr
        clear hcut hab hab' hx pr
        go_upto_region 12 with fail
        go_cut [9, 10, 11] (fun s9 s10 s11 wx => ∃ (ja jd : Nat) (A1 : Option Addr) (n1 c1 : Nat) (A2 : Option Addr) (n2 c2 : Nat), s9 = .pointer (some ⟨ja, 0, none⟩) ∧ s10 = .pointer (some ⟨jd, 0, none⟩) ∧ s11 = .bool true ∧ wx.cell? ⟨ja, 0, none⟩ = some (.int .i64 (wA w ⟨up, at'⟩)) ∧ wx.cell? ⟨ja, 1, none⟩ = some (.int .i64 (hA h ⟨up, at'⟩)) ∧ wx.cell? ⟨ja, 2, none⟩ = some (.slice A1 n1 c1) ∧ wx.cell? ⟨jd, 0, none⟩ = some (.int .i64 (wB w ⟨up, at'⟩)) ∧ wx.cell? ⟨jd, 1, none⟩ = some (.int .i64 (hB h ⟨up, at'⟩)) ∧ wx.cell? ⟨jd, 2, none⟩ = some (.slice A2 n2 c2) ∧ Rd wx A1 n1 5 (partA ⟨up, at'⟩ ps) patchC ∧ Rd wx A2 n2 5 (partB ⟨up, at'⟩ ps) patchC ∧ Below wr.heap.size wr wx)
        case first =>
          have hs2 : wr.heap.size ≤ wr.heap.size := Nat.le_refl _
          have hR2 := hRr
          have hB2 : Below wr.heap.size wr wr := Below.refl _ _
          clear hRr hCr
          have hjbw : jb < wr.heap.size := by have h1 := hjb.out; have h2 := block_lt_of_cell e0; exact h2
          have HB2 := Lib.hid hB2
          refine wp_region_held_drew (S := (fun v => v.cell? ⟨jb, 0, none⟩ = some (.int .i64 w) ∧ v.cell? ⟨jb, 1, none⟩ = some (.int .i64 h) ∧ v.cell? ⟨jb, 2, none⟩ = some (.slice A n c) ∧ v.cell? ⟨b, off + k * 2, none⟩ = some (.bool up) ∧ v.cell? ⟨b, off + k * 2 + 1, none⟩ = some (.int .i64 at'))) (by kernel_rfl) ⟨keep_drew e0, keep_drew e1, keep_drew e2, keep_drew q0, keep_drew q1⟩ (fun hHeld => ?_)
          have hB0 : Below wr.heap.size wr (World.drew wr) := hB2.drew
          have hR0 : Rd (World.drew wr) A n 5 ps patchC := hR2
          have hb0 : b < (World.drew wr).heap.size := hbW
          have hj0 : jb < (World.drew wr).heap.size := hjbw
          have hs0 : wr.heap.size ≤ (World.drew wr).heap.size := hs2
          obtain ⟨v0, hv0⟩ : ∃ v, Hid (World.drew wr = v) := ⟨_, rfl⟩
          rw [hv0.out] at hHeld hB0 hR0 hb0 hj0 hs0 ⊢
          clear e0 e1 e2 q0 q1 hR2 hB2 hbW hjbw hs2
          (refine take_yes (i := 0) (d := some 57) (v := ?_) rfl rfl (by kernel_rfl) (by kernel_rfl) (by kernel_rfl) (by rfl) (fun _ _ _ h => h) ?_ (by assumption) ?_; rotate_left; focus ((intro w' hSw; (try dsimp only at hSw); go_simp) <;> with_reducible rfl)); (try simp only [Act.put, List.setIfInBounds_toArray, List.set_cons_zero, List.set_cons_succ])
          (refine take_yes (i := 1) (d := some 58) (v := ?_) rfl rfl (by kernel_rfl) (by kernel_rfl) (by kernel_rfl) (by rfl) (fun _ _ _ h => h) ?_ (by assumption) ?_; rotate_left; focus ((intro w' hSw; (try dsimp only at hSw); go_simp) <;> with_reducible rfl)); (try simp only [Act.put, List.setIfInBounds_toArray, List.set_cons_zero, List.set_cons_succ])
          (refine take_yes (i := 2) (d := some 59) (v := ?_) rfl rfl (by kernel_rfl) (by kernel_rfl) (by kernel_rfl) (by rfl) (fun _ _ _ h => h) ?_ (by assumption) ?_; rotate_left; focus ((intro w' hSw; (try dsimp only at hSw); go_simp) <;> with_reducible rfl)); (try simp only [Act.put, List.setIfInBounds_toArray, List.set_cons_zero, List.set_cons_succ])
          (refine take_yes (i := 3) (d := some 60) (v := ?_) rfl rfl (by kernel_rfl) (by kernel_rfl) (by kernel_rfl) (by rfl) (fun _ _ _ h => h) ?_ (by assumption) ?_; rotate_left; focus ((intro w' hSw; (try dsimp only at hSw); go_simp) <;> with_reducible rfl)); (try simp only [Act.put, List.setIfInBounds_toArray, List.set_cons_zero, List.set_cons_succ])
          (refine take_yes (i := 4) (d := some 61) (v := ?_) rfl rfl (by kernel_rfl) (by kernel_rfl) (by kernel_rfl) (by rfl) (fun _ _ _ h => h) ?_ (by assumption) ?_; rotate_left; focus ((intro w' hSw; (try dsimp only at hSw); go_simp) <;> with_reducible rfl)); (try simp only [Act.put, List.setIfInBounds_toArray, List.set_cons_zero, List.set_cons_succ])
          refine wpAnyH_ready (rs := [5, 10, 11]) (by kernel_rfl) (by simp) ?_
          refine AllReadyH.cons (o := _) rfl (fun K hK => ?_) (AllReadyH.cons (o := _) rfl (fun K hK => ?_) (AllReadyH.cons (o := _) rfl (fun K hK => ?_) AllReadyH.nil))
          · go_simp
            refine (splitI_any w h A n c ps up at' _ hR0 hN HK.out).mono ?_
            rintro e v1 ⟨A1, n1, c1, A2, n2, c2, rfl, hPA, hPB, bb1⟩
            have hlo1 := bb1.size
            refine hK.out _ _ (keep5 hHeld bb1) (fun hHeld => ?_)
            clear hK K; (try simp only [Act.put, List.setIfInBounds_toArray, List.set_cons_zero, List.set_cons_succ])
            have R1 := hR0.below bb1
            have B1 := hB0.trans (bb1.mono hs0)
            have S1 := B1.size
            have Q1 : Hid (v0.heap.size ≤ v1.heap.size) := bb1.size
            clear bb1 hlo1
            (refine take_yes (i := 6) (d := some 56) (v := ?_) rfl rfl (by kernel_rfl) (by kernel_rfl) (by kernel_rfl) (by rfl) (fun _ _ _ h => h) ?_ (by assumption) ?_; rotate_left; focus ((intro w' hSw; (try dsimp only at hSw); go_simp) <;> with_reducible rfl)); (try simp only [Act.put, List.setIfInBounds_toArray, List.set_cons_zero, List.set_cons_succ])
            (refine take_yes (i := 7) (d := some 63) (v := ?_) rfl rfl (by kernel_rfl) (by kernel_rfl) (by kernel_rfl) (by rfl) (fun _ _ _ h => h) ?_ (by assumption) ?_; rotate_left; focus ((intro w' hSw; (try dsimp only at hSw); go_simp) <;> with_reducible rfl)); (try simp only [Act.put, List.setIfInBounds_toArray, List.set_cons_zero, List.set_cons_succ])
            (refine take_yes (i := 8) (d := some 64) (v := ?_) rfl rfl (by kernel_rfl) (by kernel_rfl) (by kernel_rfl) (by rfl) (fun _ _ _ h => h) ?_ (by assumption) ?_; rotate_left; focus ((intro w' hSw; (try dsimp only at hSw); go_simp) <;> with_reducible rfl)); (try simp only [Act.put, List.setIfInBounds_toArray, List.set_cons_zero, List.set_cons_succ])
            (refine take_yes (i := 9) (d := some 65) (v := ?_) rfl rfl (by kernel_rfl) (by kernel_rfl) (by kernel_rfl) (by rfl) (fun _ _ _ h => h) ?_ (by assumption) ?_; rotate_left; focus ((intro w' hSw; (try dsimp only at hSw); go_simp) <;> with_reducible rfl)); (try simp only [Act.put, List.setIfInBounds_toArray, List.set_cons_zero, List.set_cons_succ])
            refine wpAnyH_ready (rs := [10, 11]) (by kernel_rfl) (by simp) ?_
            refine AllReadyH.cons (o := _) rfl (fun K hK => ?_) (AllReadyH.cons (o := _) rfl (fun K hK => ?_) AllReadyH.nil)
            · go_simp
              obtain ⟨ja, hja⟩ : ∃ j, Hid (v1.heap.size = j) := ⟨_, rfl⟩
              obtain ⟨v2, hv2⟩ : ∃ v, Hid (v1.alloc (.cells #[.int .i64 0, .int .i64 0, .slice none 0 0] 30) = v) := ⟨_, rfl⟩
              have ra : v2.heap[ja]? = some (.cells #[.int .i64 0, .int .i64 0, .slice none 0 0] 30 (0, 0)) := by rw [← hv2.out, ← hja.out]; exact heap_alloc_new v1 _
              have bb2 : Below v1.heap.size v1 v2 := by rw [← hv2.out]; exact (Below.refl _ _).alloc (Nat.le_refl _) _
              have za : v1.heap.size = ja ∧ v2.heap.size = ja + 1 := by rw [← hv2.out, ← hja.out]; simp
              have Za := Lib.hid za
              rw [hv2.out, hja.out]
              refine hK.out _ _ (keep5 hHeld bb2) (fun hHeld => ?_)
              clear hK K; (try simp only [Act.put, List.setIfInBounds_toArray, List.set_cons_zero, List.set_cons_succ])
              have R2 := R1.below bb2
              have B2 := B1.trans (bb2.mono S1)
              have S2 := B2.size
              have hPA := hPA.below bb2
              have hPB := hPB.below bb2
              have Q2 : Hid (v1.heap.size ≤ v2.heap.size) := bb2.size
              clear bb2 za
              refine wpAnyH_ready (rs := [11]) (by kernel_rfl) (by simp) ?_
              refine AllReadyH.cons (o := _) rfl (fun K hK => ?_) AllReadyH.nil
              · go_simp
                obtain ⟨jd, hjd⟩ : ∃ j, Hid (v2.heap.size = j) := ⟨_, rfl⟩
                obtain ⟨v3, hv3⟩ : ∃ v, Hid (v2.alloc (.cells #[.int .i64 0, .int .i64 0, .slice none 0 0] 30) = v) := ⟨_, rfl⟩
                have rd : v3.heap[jd]? = some (.cells #[.int .i64 0, .int .i64 0, .slice none 0 0] 30 (0, 0)) := by rw [← hv3.out, ← hjd.out]; exact heap_alloc_new v2 _
                have bb3 : Below v2.heap.size v2 v3 := by rw [← hv3.out]; exact (Below.refl _ _).alloc (Nat.le_refl _) _
                have zd : v2.heap.size = jd ∧ v3.heap.size = jd + 1 := by rw [← hv3.out, ← hjd.out]; simp
                have Zd := Lib.hid zd
                rw [hv3.out, hjd.out]
                refine hK.out _ _ (keep5 hHeld bb3) (fun hHeld => ?_)
                clear hK K; (try simp only [Act.put, List.setIfInBounds_toArray, List.set_cons_zero, List.set_cons_succ])
                have R3 := R2.below bb3
                have B3 := B2.trans (bb3.mono S2)
                have S3 := B3.size
                have ra := (bb3.block ja (by have := Za.out; have := Q1.out; have := Q2.out; omega)).trans ra
                have hPA := hPA.below bb3
                have hPB := hPB.below bb3
                have Q3 : Hid (v2.heap.size ≤ v3.heap.size) := bb3.size
                clear bb3 zd
                have N : Hid (¬ jb = ja ∧ ¬ jb = jd ∧ ¬ b = ja ∧ ¬ b = jd ∧ ¬ ja = jd ∧ wr.heap.size ≤ ja ∧ wr.heap.size ≤ jd) := by have h1 := Za.out; have h2 := Zd.out; have h3 := Q1.out; have h4 := Q2.out; have h5 := Q3.out; refine ⟨?_, ?_, ?_, ?_, ?_, ?_, ?_⟩ <;> omega
                have NA : Hid ((ja < v0.heap.size ∨ v1.heap.size ≤ ja) ∧ (jd < v0.heap.size ∨ v1.heap.size ≤ jd)) := by have h1 := Za.out; have h2 := Zd.out; have h3 := Q1.out; have h4 := Q2.out; have h5 := Q3.out; refine ⟨?_, ?_⟩ <;> omega
                obtain ⟨n1_, n2_, n3_, n4_, n5_, n6_, n7_⟩ := N.out
                obtain ⟨na_, nd_⟩ := NA.out
                have hn1_ := hPA.len
                have hn2_ := hPB.len
                have HLA := Lib.hid hn1_
                have HLB := Lib.hid hn2_
                clear hn1_ hn2_
                have sa0 : v3.cell? ⟨ja, 0, none⟩ = some (.int .i64 0) := by rw [cell_of_row _ _ _ _ _ _ ra]; rfl
                have ga0 : v3.frozen? ⟨ja, 0, none⟩ = false := frozen_of_row _ _ _ _ _ ra
                have sa1 : v3.cell? ⟨ja, 1, none⟩ = some (.int .i64 0) := by rw [cell_of_row _ _ _ _ _ _ ra]; rfl
                have ga1 : v3.frozen? ⟨ja, 1, none⟩ = false := frozen_of_row _ _ _ _ _ ra
                have sa2 : v3.cell? ⟨ja, 2, none⟩ = some (.slice none 0 0) := by rw [cell_of_row _ _ _ _ _ _ ra]; rfl
                have ga2 : v3.frozen? ⟨ja, 2, none⟩ = false := frozen_of_row _ _ _ _ _ ra
                obtain ⟨v4, hv4⟩ : ∃ v, Hid ((((v3.setCell ⟨ja, 0, none⟩ (.int .i64 (wA w ⟨up, at'⟩))).setCell ⟨ja, 1, none⟩ (.int .i64 (hA h ⟨up, at'⟩))).setCell ⟨ja, 2, none⟩ (.slice A1 n1 c1)) = v) := ⟨_, rfl⟩
                refine wpAnyH_ready (rs := [12]) (by kernel_rfl) (by simp) ?_; refine AllReadyH.cons (o := _) rfl (fun K hK => ?_) AllReadyH.nil; go_simp
                rw [hv4.out]
                have ta := row_set (o := 2) (.slice A1 n1 c1) (row_set (o := 1) (.int .i64 (hA h ⟨up, at'⟩)) (row_set (o := 0) (.int .i64 (wA w ⟨up, at'⟩)) ra))
                rw [hv4.out] at ta
                have hfara : ∀ g, g ≠ ja → v4.heap[g]? = v3.heap[g]? := fun g hg => by rw [← hv4.out, row_far _ hg, row_far _ hg, row_far _ hg]
                refine hK.out _ _ ⟨cell_blk hHeld.1 (hfara jb n1_), cell_blk hHeld.2.1 (hfara jb n1_), cell_blk hHeld.2.2.1 (hfara jb n1_), cell_blk hHeld.2.2.2.1 (hfara b n3_), cell_blk hHeld.2.2.2.2 (hfara b n3_)⟩ (fun hHeld => ?_)
                clear hK K; (try simp only [Act.put, List.setIfInBounds_toArray, List.set_cons_zero, List.set_cons_succ])
                clear sa0 sa1 sa2 ga0 ga1 ga2
                have hPA := own_set (own_set (own_set hPA na_ 0 (.int .i64 (wA w ⟨up, at'⟩))) na_ 1 (.int .i64 (hA h ⟨up, at'⟩))) na_ 2 (.slice A1 n1 c1)
                have hPB := own_set (own_set (own_set hPB na_ 0 (.int .i64 (wA w ⟨up, at'⟩))) na_ 1 (.int .i64 (hA h ⟨up, at'⟩))) na_ 2 (.slice A1 n1 c1)
                rw [hv4.out] at hPA hPB
                have BB := below_set (below_set (below_set B3 n6_ (o := 0) (.int .i64 (wA w ⟨up, at'⟩))) n6_ (o := 1) (.int .i64 (hA h ⟨up, at'⟩))) n6_ (o := 2) (.slice A1 n1 c1)
                rw [hv4.out] at BB
                have rd := (hfara jd (fun e => n5_ e.symm)).trans rd
                have sd0 : v4.cell? ⟨jd, 0, none⟩ = some (.int .i64 0) := by rw [cell_of_row _ _ _ _ _ _ rd]; rfl
                have gd0 : v4.frozen? ⟨jd, 0, none⟩ = false := frozen_of_row _ _ _ _ _ rd
                have sd1 : v4.cell? ⟨jd, 1, none⟩ = some (.int .i64 0) := by rw [cell_of_row _ _ _ _ _ _ rd]; rfl
                have gd1 : v4.frozen? ⟨jd, 1, none⟩ = false := frozen_of_row _ _ _ _ _ rd
                have sd2 : v4.cell? ⟨jd, 2, none⟩ = some (.slice none 0 0) := by rw [cell_of_row _ _ _ _ _ _ rd]; rfl
                have gd2 : v4.frozen? ⟨jd, 2, none⟩ = false := frozen_of_row _ _ _ _ _ rd
                obtain ⟨v5, hv5⟩ : ∃ v, Hid ((((v4.setCell ⟨jd, 0, none⟩ (.int .i64 (wB w ⟨up, at'⟩))).setCell ⟨jd, 1, none⟩ (.int .i64 (hB h ⟨up, at'⟩))).setCell ⟨jd, 2, none⟩ (.slice A2 n2 c2)) = v) := ⟨_, rfl⟩
                refine wpAnyH_ready (rs := [13]) (by kernel_rfl) (by simp) ?_; refine AllReadyH.cons (o := _) rfl (fun K hK => ?_) AllReadyH.nil; go_simp
                rw [hv5.out]
                have td := row_set (o := 2) (.slice A2 n2 c2) (row_set (o := 1) (.int .i64 (hB h ⟨up, at'⟩)) (row_set (o := 0) (.int .i64 (wB w ⟨up, at'⟩)) rd))
                rw [hv5.out] at td
                have hfard : ∀ g, g ≠ jd → v5.heap[g]? = v4.heap[g]? := fun g hg => by rw [← hv5.out, row_far _ hg, row_far _ hg, row_far _ hg]
                refine hK.out _ _ ⟨cell_blk hHeld.1 (hfard jb n2_), cell_blk hHeld.2.1 (hfard jb n2_), cell_blk hHeld.2.2.1 (hfard jb n2_), cell_blk hHeld.2.2.2.1 (hfard b n4_), cell_blk hHeld.2.2.2.2 (hfard b n4_)⟩ (fun hHeld => ?_)
                clear hK K; (try simp only [Act.put, List.setIfInBounds_toArray, List.set_cons_zero, List.set_cons_succ])
                clear sd0 sd1 sd2 gd0 gd1 gd2
                have hPA := own_set (own_set (own_set hPA nd_ 0 (.int .i64 (wB w ⟨up, at'⟩))) nd_ 1 (.int .i64 (hB h ⟨up, at'⟩))) nd_ 2 (.slice A2 n2 c2)
                have hPB := own_set (own_set (own_set hPB nd_ 0 (.int .i64 (wB w ⟨up, at'⟩))) nd_ 1 (.int .i64 (hB h ⟨up, at'⟩))) nd_ 2 (.slice A2 n2 c2)
                rw [hv5.out] at hPA hPB
                have BB := below_set (below_set (below_set BB n7_ (o := 0) (.int .i64 (wB w ⟨up, at'⟩))) n7_ (o := 1) (.int .i64 (hB h ⟨up, at'⟩))) n7_ (o := 2) (.slice A2 n2 c2)
                rw [hv5.out] at BB
                have ra := (hfard ja n5_).trans ta
                have rd := td
                (refine take_yes (i := 14) (d := some 11) (v := ?_) rfl rfl (by kernel_rfl) (by kernel_rfl) (by kernel_rfl) (by rfl) (fun _ _ _ h => h) ?_ (by assumption) ?_; rotate_left; focus ((intro w' hSw; (try dsimp only at hSw); go_simp) <;> with_reducible rfl)); (try simp only [Act.put, List.setIfInBounds_toArray, List.set_cons_zero, List.set_cons_succ])
                refine wpAnyH_done (by kernel_rfl) ?_ _
                have ya0 : v5.cell? ⟨ja, 0, none⟩ = some (.int .i64 (wA w ⟨up, at'⟩)) := by rw [cell_of_row _ _ _ _ _ _ ra]; rfl
                have ya1 : v5.cell? ⟨ja, 1, none⟩ = some (.int .i64 (hA h ⟨up, at'⟩)) := by rw [cell_of_row _ _ _ _ _ _ ra]; rfl
                have ya2 : v5.cell? ⟨ja, 2, none⟩ = some (.slice A1 n1 c1) := by rw [cell_of_row _ _ _ _ _ _ ra]; rfl
                have yd0 : v5.cell? ⟨jd, 0, none⟩ = some (.int .i64 (wB w ⟨up, at'⟩)) := by rw [cell_of_row _ _ _ _ _ _ rd]; rfl
                have yd1 : v5.cell? ⟨jd, 1, none⟩ = some (.int .i64 (hB h ⟨up, at'⟩)) := by rw [cell_of_row _ _ _ _ _ _ rd]; rfl
                have yd2 : v5.cell? ⟨jd, 2, none⟩ = some (.slice A2 n2 c2) := by rw [cell_of_row _ _ _ _ _ _ rd]; rfl
                have hn1 : n1 ≤ 1048576 := by have h1 := HLA.out; have h2 := pA_len ⟨up, at'⟩ ps; have h3 := HLEN.out; omega
                have hn2 : n2 ≤ 1048576 := by have h1 := HLB.out; have h2 := pB_len ⟨up, at'⟩ ps; have h3 := HLEN.out; omega
                have hPA := hPA.rd
                have hPB := hPB.rd
                have BS := BB.size
                clear ra rd ta td hfara hfard hHeld n1_ n2_ n3_ n4_ n5_ n6_ n7_ na_ nd_
                go_wp2_with fail
                go_meet
                exact ⟨ja, jd, A1, n1, c1, A2, n2, c2, rfl, rfl, rfl, ya0, ya1, ya2, yd0, yd1, yd2, hPA, hPB, BB⟩
            · go_simp
              obtain ⟨jd, hjd⟩ : ∃ j, Hid (v1.heap.size = j) := ⟨_, rfl⟩
              obtain ⟨v2, hv2⟩ : ∃ v, Hid (v1.alloc (.cells #[.int .i64 0, .int .i64 0, .slice none 0 0] 30) = v) := ⟨_, rfl⟩
              have rd : v2.heap[jd]? = some (.cells #[.int .i64 0, .int .i64 0, .slice none 0 0] 30 (0, 0)) := by rw [← hv2.out, ← hjd.out]; exact heap_alloc_new v1 _
              have bb2 : Below v1.heap.size v1 v2 := by rw [← hv2.out]; exact (Below.refl _ _).alloc (Nat.le_refl _) _
              have zd : v1.heap.size = jd ∧ v2.heap.size = jd + 1 := by rw [← hv2.out, ← hjd.out]; simp
              have Zd := Lib.hid zd
              rw [hv2.out, hjd.out]
              refine hK.out _ _ (keep5 hHeld bb2) (fun hHeld => ?_)
              clear hK K; (try simp only [Act.put, List.setIfInBounds_toArray, List.set_cons_zero, List.set_cons_succ])
              have R2 := R1.below bb2
              have B2 := B1.trans (bb2.mono S1)
              have S2 := B2.size
              have hPA := hPA.below bb2
              have hPB := hPB.below bb2
              have Q2 : Hid (v1.heap.size ≤ v2.heap.size) := bb2.size
              clear bb2 zd
              refine wpAnyH_ready (rs := [10]) (by kernel_rfl) (by simp) ?_
              refine AllReadyH.cons (o := _) rfl (fun K hK => ?_) AllReadyH.nil
              · go_simp
                obtain ⟨ja, hja⟩ : ∃ j, Hid (v2.heap.size = j) := ⟨_, rfl⟩
                obtain ⟨v3, hv3⟩ : ∃ v, Hid (v2.alloc (.cells #[.int .i64 0, .int .i64 0, .slice none 0 0] 30) = v) := ⟨_, rfl⟩
                have ra : v3.heap[ja]? = some (.cells #[.int .i64 0, .int .i64 0, .slice none 0 0] 30 (0, 0)) := by rw [← hv3.out, ← hja.out]; exact heap_alloc_new v2 _
                have bb3 : Below v2.heap.size v2 v3 := by rw [← hv3.out]; exact (Below.refl _ _).alloc (Nat.le_refl _) _
                have za : v2.heap.size = ja ∧ v3.heap.size = ja + 1 := by rw [← hv3.out, ← hja.out]; simp
                have Za := Lib.hid za
                rw [hv3.out, hja.out]
                refine hK.out _ _ (keep5 hHeld bb3) (fun hHeld => ?_)
                clear hK K; (try simp only [Act.put, List.setIfInBounds_toArray, List.set_cons_zero, List.set_cons_succ])
                have R3 := R2.below bb3
                have B3 := B2.trans (bb3.mono S2)
                have S3 := B3.size
                have rd := (bb3.block jd (by have := Zd.out; have := Q1.out; have := Q2.out; omega)).trans rd
                have hPA := hPA.below bb3
                have hPB := hPB.below bb3
                have Q3 : Hid (v2.heap.size ≤ v3.heap.size) := bb3.size
                clear bb3 za
                have N : Hid (¬ jb = ja ∧ ¬ jb = jd ∧ ¬ b = ja ∧ ¬ b = jd ∧ ¬ ja = jd ∧ wr.heap.size ≤ ja ∧ wr.heap.size ≤ jd) := by have h1 := Za.out; have h2 := Zd.out; have h3 := Q1.out; have h4 := Q2.out; have h5 := Q3.out; refine ⟨?_, ?_, ?_, ?_, ?_, ?_, ?_⟩ <;> omega
                have NA : Hid ((ja < v0.heap.size ∨ v1.heap.size ≤ ja) ∧ (jd < v0.heap.size ∨ v1.heap.size ≤ jd)) := by have h1 := Za.out; have h2 := Zd.out; have h3 := Q1.out; have h4 := Q2.out; have h5 := Q3.out; refine ⟨?_, ?_⟩ <;> omega
                obtain ⟨n1_, n2_, n3_, n4_, n5_, n6_, n7_⟩ := N.out
                obtain ⟨na_, nd_⟩ := NA.out
                have hn1_ := hPA.len
                have hn2_ := hPB.len
                have HLA := Lib.hid hn1_
                have HLB := Lib.hid hn2_
                clear hn1_ hn2_
                have sa0 : v3.cell? ⟨ja, 0, none⟩ = some (.int .i64 0) := by rw [cell_of_row _ _ _ _ _ _ ra]; rfl
                have ga0 : v3.frozen? ⟨ja, 0, none⟩ = false := frozen_of_row _ _ _ _ _ ra
                have sa1 : v3.cell? ⟨ja, 1, none⟩ = some (.int .i64 0) := by rw [cell_of_row _ _ _ _ _ _ ra]; rfl
                have ga1 : v3.frozen? ⟨ja, 1, none⟩ = false := frozen_of_row _ _ _ _ _ ra
                have sa2 : v3.cell? ⟨ja, 2, none⟩ = some (.slice none 0 0) := by rw [cell_of_row _ _ _ _ _ _ ra]; rfl
                have ga2 : v3.frozen? ⟨ja, 2, none⟩ = false := frozen_of_row _ _ _ _ _ ra
                obtain ⟨v4, hv4⟩ : ∃ v, Hid ((((v3.setCell ⟨ja, 0, none⟩ (.int .i64 (wA w ⟨up, at'⟩))).setCell ⟨ja, 1, none⟩ (.int .i64 (hA h ⟨up, at'⟩))).setCell ⟨ja, 2, none⟩ (.slice A1 n1 c1)) = v) := ⟨_, rfl⟩
                refine wpAnyH_ready (rs := [12]) (by kernel_rfl) (by simp) ?_; refine AllReadyH.cons (o := _) rfl (fun K hK => ?_) AllReadyH.nil; go_simp
                rw [hv4.out]
                have ta := row_set (o := 2) (.slice A1 n1 c1) (row_set (o := 1) (.int .i64 (hA h ⟨up, at'⟩)) (row_set (o := 0) (.int .i64 (wA w ⟨up, at'⟩)) ra))
                rw [hv4.out] at ta
                have hfara : ∀ g, g ≠ ja → v4.heap[g]? = v3.heap[g]? := fun g hg => by rw [← hv4.out, row_far _ hg, row_far _ hg, row_far _ hg]
                refine hK.out _ _ ⟨cell_blk hHeld.1 (hfara jb n1_), cell_blk hHeld.2.1 (hfara jb n1_), cell_blk hHeld.2.2.1 (hfara jb n1_), cell_blk hHeld.2.2.2.1 (hfara b n3_), cell_blk hHeld.2.2.2.2 (hfara b n3_)⟩ (fun hHeld => ?_)
                clear hK K; (try simp only [Act.put, List.setIfInBounds_toArray, List.set_cons_zero, List.set_cons_succ])
                clear sa0 sa1 sa2 ga0 ga1 ga2
                have hPA := own_set (own_set (own_set hPA na_ 0 (.int .i64 (wA w ⟨up, at'⟩))) na_ 1 (.int .i64 (hA h ⟨up, at'⟩))) na_ 2 (.slice A1 n1 c1)
                have hPB := own_set (own_set (own_set hPB na_ 0 (.int .i64 (wA w ⟨up, at'⟩))) na_ 1 (.int .i64 (hA h ⟨up, at'⟩))) na_ 2 (.slice A1 n1 c1)
                rw [hv4.out] at hPA hPB
                have BB := below_set (below_set (below_set B3 n6_ (o := 0) (.int .i64 (wA w ⟨up, at'⟩))) n6_ (o := 1) (.int .i64 (hA h ⟨up, at'⟩))) n6_ (o := 2) (.slice A1 n1 c1)
                rw [hv4.out] at BB
                have rd := (hfara jd (fun e => n5_ e.symm)).trans rd
                have sd0 : v4.cell? ⟨jd, 0, none⟩ = some (.int .i64 0) := by rw [cell_of_row _ _ _ _ _ _ rd]; rfl
                have gd0 : v4.frozen? ⟨jd, 0, none⟩ = false := frozen_of_row _ _ _ _ _ rd
                have sd1 : v4.cell? ⟨jd, 1, none⟩ = some (.int .i64 0) := by rw [cell_of_row _ _ _ _ _ _ rd]; rfl
                have gd1 : v4.frozen? ⟨jd, 1, none⟩ = false := frozen_of_row _ _ _ _ _ rd
                have sd2 : v4.cell? ⟨jd, 2, none⟩ = some (.slice none 0 0) := by rw [cell_of_row _ _ _ _ _ _ rd]; rfl
                have gd2 : v4.frozen? ⟨jd, 2, none⟩ = false := frozen_of_row _ _ _ _ _ rd
                obtain ⟨v5, hv5⟩ : ∃ v, Hid ((((v4.setCell ⟨jd, 0, none⟩ (.int .i64 (wB w ⟨up, at'⟩))).setCell ⟨jd, 1, none⟩ (.int .i64 (hB h ⟨up, at'⟩))).setCell ⟨jd, 2, none⟩ (.slice A2 n2 c2)) = v) := ⟨_, rfl⟩
                refine wpAnyH_ready (rs := [13]) (by kernel_rfl) (by simp) ?_; refine AllReadyH.cons (o := _) rfl (fun K hK => ?_) AllReadyH.nil; go_simp
                rw [hv5.out]
                have td := row_set (o := 2) (.slice A2 n2 c2) (row_set (o := 1) (.int .i64 (hB h ⟨up, at'⟩)) (row_set (o := 0) (.int .i64 (wB w ⟨up, at'⟩)) rd))
                rw [hv5.out] at td
                have hfard : ∀ g, g ≠ jd → v5.heap[g]? = v4.heap[g]? := fun g hg => by rw [← hv5.out, row_far _ hg, row_far _ hg, row_far _ hg]
                refine hK.out _ _ ⟨cell_blk hHeld.1 (hfard jb n2_), cell_blk hHeld.2.1 (hfard jb n2_), cell_blk hHeld.2.2.1 (hfard jb n2_), cell_blk hHeld.2.2.2.1 (hfard b n4_), cell_blk hHeld.2.2.2.2 (hfard b n4_)⟩ (fun hHeld => ?_)
                clear hK K; (try simp only [Act.put, List.setIfInBounds_toArray, List.set_cons_zero, List.set_cons_succ])
                clear sd0 sd1 sd2 gd0 gd1 gd2
                have hPA := own_set (own_set (own_set hPA nd_ 0 (.int .i64 (wB w ⟨up, at'⟩))) nd_ 1 (.int .i64 (hB h ⟨up, at'⟩))) nd_ 2 (.slice A2 n2 c2)
                have hPB := own_set (own_set (own_set hPB nd_ 0 (.int .i64 (wB w ⟨up, at'⟩))) nd_ 1 (.int .i64 (hB h ⟨up, at'⟩))) nd_ 2 (.slice A2 n2 c2)
                rw [hv5.out] at hPA hPB
                have BB := below_set (below_set (below_set BB n7_ (o := 0) (.int .i64 (wB w ⟨up, at'⟩))) n7_ (o := 1) (.int .i64 (hB h ⟨up, at'⟩))) n7_ (o := 2) (.slice A2 n2 c2)
                rw [hv5.out] at BB
                have ra := (hfard ja n5_).trans ta
                have rd := td
                (refine take_yes (i := 14) (d := some 11) (v := ?_) rfl rfl (by kernel_rfl) (by kernel_rfl) (by kernel_rfl) (by rfl) (fun _ _ _ h => h) ?_ (by assumption) ?_; rotate_left; focus ((intro w' hSw; (try dsimp only at hSw); go_simp) <;> with_reducible rfl)); (try simp only [Act.put, List.setIfInBounds_toArray, List.set_cons_zero, List.set_cons_succ])
                refine wpAnyH_done (by kernel_rfl) ?_ _
                have ya0 : v5.cell? ⟨ja, 0, none⟩ = some (.int .i64 (wA w ⟨up, at'⟩)) := by rw [cell_of_row _ _ _ _ _ _ ra]; rfl
                have ya1 : v5.cell? ⟨ja, 1, none⟩ = some (.int .i64 (hA h ⟨up, at'⟩)) := by rw [cell_of_row _ _ _ _ _ _ ra]; rfl
                have ya2 : v5.cell? ⟨ja, 2, none⟩ = some (.slice A1 n1 c1) := by rw [cell_of_row _ _ _ _ _ _ ra]; rfl
                have yd0 : v5.cell? ⟨jd, 0, none⟩ = some (.int .i64 (wB w ⟨up, at'⟩)) := by rw [cell_of_row _ _ _ _ _ _ rd]; rfl
                have yd1 : v5.cell? ⟨jd, 1, none⟩ = some (.int .i64 (hB h ⟨up, at'⟩)) := by rw [cell_of_row _ _ _ _ _ _ rd]; rfl
                have yd2 : v5.cell? ⟨jd, 2, none⟩ = some (.slice A2 n2 c2) := by rw [cell_of_row _ _ _ _ _ _ rd]; rfl
                have hn1 : n1 ≤ 1048576 := by have h1 := HLA.out; have h2 := pA_len ⟨up, at'⟩ ps; have h3 := HLEN.out; omega
                have hn2 : n2 ≤ 1048576 := by have h1 := HLB.out; have h2 := pB_len ⟨up, at'⟩ ps; have h3 := HLEN.out; omega
                have hPA := hPA.rd
                have hPB := hPB.rd
                have BS := BB.size
                clear ra rd ta td hfara hfard hHeld n1_ n2_ n3_ n4_ n5_ n6_ n7_ na_ nd_
                go_wp2_with fail
                go_meet
                exact ⟨ja, jd, A1, n1, c1, A2, n2, c2, rfl, rfl, rfl, ya0, ya1, ya2, yd0, yd1, yd2, hPA, hPB, BB⟩
          · go_simp
            obtain ⟨ja, hja⟩ : ∃ j, Hid (v0.heap.size = j) := ⟨_, rfl⟩
            obtain ⟨v1, hv1⟩ : ∃ v, Hid (v0.alloc (.cells #[.int .i64 0, .int .i64 0, .slice none 0 0] 30) = v) := ⟨_, rfl⟩
            have ra : v1.heap[ja]? = some (.cells #[.int .i64 0, .int .i64 0, .slice none 0 0] 30 (0, 0)) := by rw [← hv1.out, ← hja.out]; exact heap_alloc_new v0 _
            have bb1 : Below v0.heap.size v0 v1 := by rw [← hv1.out]; exact (Below.refl _ _).alloc (Nat.le_refl _) _
            have za : v0.heap.size = ja ∧ v1.heap.size = ja + 1 := by rw [← hv1.out, ← hja.out]; simp
            have Za := Lib.hid za
            rw [hv1.out, hja.out]
            refine hK.out _ _ (keep5 hHeld bb1) (fun hHeld => ?_)
            clear hK K; (try simp only [Act.put, List.setIfInBounds_toArray, List.set_cons_zero, List.set_cons_succ])
            have R1 := hR0.below bb1
            have B1 := hB0.trans (bb1.mono hs0)
            have S1 := B1.size
            have Q1 : Hid (v0.heap.size ≤ v1.heap.size) := bb1.size
            clear bb1 za
            refine wpAnyH_ready (rs := [5, 11]) (by kernel_rfl) (by simp) ?_
            refine AllReadyH.cons (o := _) rfl (fun K hK => ?_) (AllReadyH.cons (o := _) rfl (fun K hK => ?_) AllReadyH.nil)
            · go_simp
              refine (splitI_any w h A n c ps up at' _ R1 hN HK.out).mono ?_
              rintro e v2 ⟨A1, n1, c1, A2, n2, c2, rfl, hPA, hPB, bb2⟩
              have hlo2 := bb2.size
              refine hK.out _ _ (keep5 hHeld bb2) (fun hHeld => ?_)
              clear hK K; (try simp only [Act.put, List.setIfInBounds_toArray, List.set_cons_zero, List.set_cons_succ])
              have R2 := R1.below bb2
              have B2 := B1.trans (bb2.mono S1)
              have S2 := B2.size
              have ra := (bb2.block ja (by have := Za.out; have := Q1.out; omega)).trans ra
              have Q2 : Hid (v1.heap.size ≤ v2.heap.size) := bb2.size
              clear bb2 hlo2
              (refine take_yes (i := 6) (d := some 56) (v := ?_) rfl rfl (by kernel_rfl) (by kernel_rfl) (by kernel_rfl) (by rfl) (fun _ _ _ h => h) ?_ (by assumption) ?_; rotate_left; focus ((intro w' hSw; (try dsimp only at hSw); go_simp) <;> with_reducible rfl)); (try simp only [Act.put, List.setIfInBounds_toArray, List.set_cons_zero, List.set_cons_succ])
              (refine take_yes (i := 7) (d := some 63) (v := ?_) rfl rfl (by kernel_rfl) (by kernel_rfl) (by kernel_rfl) (by rfl) (fun _ _ _ h => h) ?_ (by assumption) ?_; rotate_left; focus ((intro w' hSw; (try dsimp only at hSw); go_simp) <;> with_reducible rfl)); (try simp only [Act.put, List.setIfInBounds_toArray, List.set_cons_zero, List.set_cons_succ])
              (refine take_yes (i := 8) (d := some 64) (v := ?_) rfl rfl (by kernel_rfl) (by kernel_rfl) (by kernel_rfl) (by rfl) (fun _ _ _ h => h) ?_ (by assumption) ?_; rotate_left; focus ((intro w' hSw; (try dsimp only at hSw); go_simp) <;> with_reducible rfl)); (try simp only [Act.put, List.setIfInBounds_toArray, List.set_cons_zero, List.set_cons_succ])
              (refine take_yes (i := 9) (d := some 65) (v := ?_) rfl rfl (by kernel_rfl) (by kernel_rfl) (by kernel_rfl) (by rfl) (fun _ _ _ h => h) ?_ (by assumption) ?_; rotate_left; focus ((intro w' hSw; (try dsimp only at hSw); go_simp) <;> with_reducible rfl)); (try simp only [Act.put, List.setIfInBounds_toArray, List.set_cons_zero, List.set_cons_succ])
              refine wpAnyH_ready (rs := [11]) (by kernel_rfl) (by simp) ?_
              refine AllReadyH.cons (o := _) rfl (fun K hK => ?_) AllReadyH.nil
              · go_simp
                obtain ⟨jd, hjd⟩ : ∃ j, Hid (v2.heap.size = j) := ⟨_, rfl⟩
                obtain ⟨v3, hv3⟩ : ∃ v, Hid (v2.alloc (.cells #[.int .i64 0, .int .i64 0, .slice none 0 0] 30) = v) := ⟨_, rfl⟩
                have rd : v3.heap[jd]? = some (.cells #[.int .i64 0, .int .i64 0, .slice none 0 0] 30 (0, 0)) := by rw [← hv3.out, ← hjd.out]; exact heap_alloc_new v2 _
                have bb3 : Below v2.heap.size v2 v3 := by rw [← hv3.out]; exact (Below.refl _ _).alloc (Nat.le_refl _) _
                have zd : v2.heap.size = jd ∧ v3.heap.size = jd + 1 := by rw [← hv3.out, ← hjd.out]; simp
                have Zd := Lib.hid zd
                rw [hv3.out, hjd.out]
                refine hK.out _ _ (keep5 hHeld bb3) (fun hHeld => ?_)
                clear hK K; (try simp only [Act.put, List.setIfInBounds_toArray, List.set_cons_zero, List.set_cons_succ])
                have R3 := R2.below bb3
                have B3 := B2.trans (bb3.mono S2)
                have S3 := B3.size
                have ra := (bb3.block ja (by have := Za.out; have := Q1.out; have := Q2.out; omega)).trans ra
                have hPA := hPA.below bb3
                have hPB := hPB.below bb3
                have Q3 : Hid (v2.heap.size ≤ v3.heap.size) := bb3.size
                clear bb3 zd
                have N : Hid (¬ jb = ja ∧ ¬ jb = jd ∧ ¬ b = ja ∧ ¬ b = jd ∧ ¬ ja = jd ∧ wr.heap.size ≤ ja ∧ wr.heap.size ≤ jd) := by have h1 := Za.out; have h2 := Zd.out; have h3 := Q1.out; have h4 := Q2.out; have h5 := Q3.out; refine ⟨?_, ?_, ?_, ?_, ?_, ?_, ?_⟩ <;> omega
                have NA : Hid ((ja < v1.heap.size ∨ v2.heap.size ≤ ja) ∧ (jd < v1.heap.size ∨ v2.heap.size ≤ jd)) := by have h1 := Za.out; have h2 := Zd.out; have h3 := Q1.out; have h4 := Q2.out; have h5 := Q3.out; refine ⟨?_, ?_⟩ <;> omega
                obtain ⟨n1_, n2_, n3_, n4_, n5_, n6_, n7_⟩ := N.out
                obtain ⟨na_, nd_⟩ := NA.out
                have hn1_ := hPA.len
                have hn2_ := hPB.len
                have HLA := Lib.hid hn1_
                have HLB := Lib.hid hn2_
                clear hn1_ hn2_
                have sa0 : v3.cell? ⟨ja, 0, none⟩ = some (.int .i64 0) := by rw [cell_of_row _ _ _ _ _ _ ra]; rfl
                have ga0 : v3.frozen? ⟨ja, 0, none⟩ = false := frozen_of_row _ _ _ _ _ ra
                have sa1 : v3.cell? ⟨ja, 1, none⟩ = some (.int .i64 0) := by rw [cell_of_row _ _ _ _ _ _ ra]; rfl
                have ga1 : v3.frozen? ⟨ja, 1, none⟩ = false := frozen_of_row _ _ _ _ _ ra
                have sa2 : v3.cell? ⟨ja, 2, none⟩ = some (.slice none 0 0) := by rw [cell_of_row _ _ _ _ _ _ ra]; rfl
                have ga2 : v3.frozen? ⟨ja, 2, none⟩ = false := frozen_of_row _ _ _ _ _ ra
                obtain ⟨v4, hv4⟩ : ∃ v, Hid ((((v3.setCell ⟨ja, 0, none⟩ (.int .i64 (wA w ⟨up, at'⟩))).setCell ⟨ja, 1, none⟩ (.int .i64 (hA h ⟨up, at'⟩))).setCell ⟨ja, 2, none⟩ (.slice A1 n1 c1)) = v) := ⟨_, rfl⟩
                refine wpAnyH_ready (rs := [12]) (by kernel_rfl) (by simp) ?_; refine AllReadyH.cons (o := _) rfl (fun K hK => ?_) AllReadyH.nil; go_simp
                rw [hv4.out]
                have ta := row_set (o := 2) (.slice A1 n1 c1) (row_set (o := 1) (.int .i64 (hA h ⟨up, at'⟩)) (row_set (o := 0) (.int .i64 (wA w ⟨up, at'⟩)) ra))
                rw [hv4.out] at ta
                have hfara : ∀ g, g ≠ ja → v4.heap[g]? = v3.heap[g]? := fun g hg => by rw [← hv4.out, row_far _ hg, row_far _ hg, row_far _ hg]
                refine hK.out _ _ ⟨cell_blk hHeld.1 (hfara jb n1_), cell_blk hHeld.2.1 (hfara jb n1_), cell_blk hHeld.2.2.1 (hfara jb n1_), cell_blk hHeld.2.2.2.1 (hfara b n3_), cell_blk hHeld.2.2.2.2 (hfara b n3_)⟩ (fun hHeld => ?_)
                clear hK K; (try simp only [Act.put, List.setIfInBounds_toArray, List.set_cons_zero, List.set_cons_succ])
                clear sa0 sa1 sa2 ga0 ga1 ga2
                have hPA := own_set (own_set (own_set hPA na_ 0 (.int .i64 (wA w ⟨up, at'⟩))) na_ 1 (.int .i64 (hA h ⟨up, at'⟩))) na_ 2 (.slice A1 n1 c1)
                have hPB := own_set (own_set (own_set hPB na_ 0 (.int .i64 (wA w ⟨up, at'⟩))) na_ 1 (.int .i64 (hA h ⟨up, at'⟩))) na_ 2 (.slice A1 n1 c1)
                rw [hv4.out] at hPA hPB
                have BB := below_set (below_set (below_set B3 n6_ (o := 0) (.int .i64 (wA w ⟨up, at'⟩))) n6_ (o := 1) (.int .i64 (hA h ⟨up, at'⟩))) n6_ (o := 2) (.slice A1 n1 c1)
                rw [hv4.out] at BB
                have rd := (hfara jd (fun e => n5_ e.symm)).trans rd
                have sd0 : v4.cell? ⟨jd, 0, none⟩ = some (.int .i64 0) := by rw [cell_of_row _ _ _ _ _ _ rd]; rfl
                have gd0 : v4.frozen? ⟨jd, 0, none⟩ = false := frozen_of_row _ _ _ _ _ rd
                have sd1 : v4.cell? ⟨jd, 1, none⟩ = some (.int .i64 0) := by rw [cell_of_row _ _ _ _ _ _ rd]; rfl
                have gd1 : v4.frozen? ⟨jd, 1, none⟩ = false := frozen_of_row _ _ _ _ _ rd
                have sd2 : v4.cell? ⟨jd, 2, none⟩ = some (.slice none 0 0) := by rw [cell_of_row _ _ _ _ _ _ rd]; rfl
                have gd2 : v4.frozen? ⟨jd, 2, none⟩ = false := frozen_of_row _ _ _ _ _ rd
                obtain ⟨v5, hv5⟩ : ∃ v, Hid ((((v4.setCell ⟨jd, 0, none⟩ (.int .i64 (wB w ⟨up, at'⟩))).setCell ⟨jd, 1, none⟩ (.int .i64 (hB h ⟨up, at'⟩))).setCell ⟨jd, 2, none⟩ (.slice A2 n2 c2)) = v) := ⟨_, rfl⟩
                refine wpAnyH_ready (rs := [13]) (by kernel_rfl) (by simp) ?_; refine AllReadyH.cons (o := _) rfl (fun K hK => ?_) AllReadyH.nil; go_simp
                rw [hv5.out]
                have td := row_set (o := 2) (.slice A2 n2 c2) (row_set (o := 1) (.int .i64 (hB h ⟨up, at'⟩)) (row_set (o := 0) (.int .i64 (wB w ⟨up, at'⟩)) rd))
                rw [hv5.out] at td
                have hfard : ∀ g, g ≠ jd → v5.heap[g]? = v4.heap[g]? := fun g hg => by rw [← hv5.out, row_far _ hg, row_far _ hg, row_far _ hg]
                refine hK.out _ _ ⟨cell_blk hHeld.1 (hfard jb n2_), cell_blk hHeld.2.1 (hfard jb n2_), cell_blk hHeld.2.2.1 (hfard jb n2_), cell_blk hHeld.2.2.2.1 (hfard b n4_), cell_blk hHeld.2.2.2.2 (hfard b n4_)⟩ (fun hHeld => ?_)
                clear hK K; (try simp only [Act.put, List.setIfInBounds_toArray, List.set_cons_zero, List.set_cons_succ])
                clear sd0 sd1 sd2 gd0 gd1 gd2
                have hPA := own_set (own_set (own_set hPA nd_ 0 (.int .i64 (wB w ⟨up, at'⟩))) nd_ 1 (.int .i64 (hB h ⟨up, at'⟩))) nd_ 2 (.slice A2 n2 c2)
                have hPB := own_set (own_set (own_set hPB nd_ 0 (.int .i64 (wB w ⟨up, at'⟩))) nd_ 1 (.int .i64 (hB h ⟨up, at'⟩))) nd_ 2 (.slice A2 n2 c2)
                rw [hv5.out] at hPA hPB
                have BB := below_set (below_set (below_set BB n7_ (o := 0) (.int .i64 (wB w ⟨up, at'⟩))) n7_ (o := 1) (.int .i64 (hB h ⟨up, at'⟩))) n7_ (o := 2) (.slice A2 n2 c2)
                rw [hv5.out] at BB
                have ra := (hfard ja n5_).trans ta
                have rd := td
                (refine take_yes (i := 14) (d := some 11) (v := ?_) rfl rfl (by kernel_rfl) (by kernel_rfl) (by kernel_rfl) (by rfl) (fun _ _ _ h => h) ?_ (by assumption) ?_; rotate_left; focus ((intro w' hSw; (try dsimp only at hSw); go_simp) <;> with_reducible rfl)); (try simp only [Act.put, List.setIfInBounds_toArray, List.set_cons_zero, List.set_cons_succ])
                refine wpAnyH_done (by kernel_rfl) ?_ _
                have ya0 : v5.cell? ⟨ja, 0, none⟩ = some (.int .i64 (wA w ⟨up, at'⟩)) := by rw [cell_of_row _ _ _ _ _ _ ra]; rfl
                have ya1 : v5.cell? ⟨ja, 1, none⟩ = some (.int .i64 (hA h ⟨up, at'⟩)) := by rw [cell_of_row _ _ _ _ _ _ ra]; rfl
                have ya2 : v5.cell? ⟨ja, 2, none⟩ = some (.slice A1 n1 c1) := by rw [cell_of_row _ _ _ _ _ _ ra]; rfl
                have yd0 : v5.cell? ⟨jd, 0, none⟩ = some (.int .i64 (wB w ⟨up, at'⟩)) := by rw [cell_of_row _ _ _ _ _ _ rd]; rfl
                have yd1 : v5.cell? ⟨jd, 1, none⟩ = some (.int .i64 (hB h ⟨up, at'⟩)) := by rw [cell_of_row _ _ _ _ _ _ rd]; rfl
                have yd2 : v5.cell? ⟨jd, 2, none⟩ = some (.slice A2 n2 c2) := by rw [cell_of_row _ _ _ _ _ _ rd]; rfl
                have hn1 : n1 ≤ 1048576 := by have h1 := HLA.out; have h2 := pA_len ⟨up, at'⟩ ps; have h3 := HLEN.out; omega
                have hn2 : n2 ≤ 1048576 := by have h1 := HLB.out; have h2 := pB_len ⟨up, at'⟩ ps; have h3 := HLEN.out; omega
                have hPA := hPA.rd
                have hPB := hPB.rd
                have BS := BB.size
                clear ra rd ta td hfara hfard hHeld n1_ n2_ n3_ n4_ n5_ n6_ n7_ na_ nd_
                go_wp2_with fail
                go_meet
                exact ⟨ja, jd, A1, n1, c1, A2, n2, c2, rfl, rfl, rfl, ya0, ya1, ya2, yd0, yd1, yd2, hPA, hPB, BB⟩
            · go_simp
              obtain ⟨jd, hjd⟩ : ∃ j, Hid (v1.heap.size = j) := ⟨_, rfl⟩
              obtain ⟨v2, hv2⟩ : ∃ v, Hid (v1.alloc (.cells #[.int .i64 0, .int .i64 0, .slice none 0 0] 30) = v) := ⟨_, rfl⟩
              have rd : v2.heap[jd]? = some (.cells #[.int .i64 0, .int .i64 0, .slice none 0 0] 30 (0, 0)) := by rw [← hv2.out, ← hjd.out]; exact heap_alloc_new v1 _
              have bb2 : Below v1.heap.size v1 v2 := by rw [← hv2.out]; exact (Below.refl _ _).alloc (Nat.le_refl _) _
              have zd : v1.heap.size = jd ∧ v2.heap.size = jd + 1 := by rw [← hv2.out, ← hjd.out]; simp
              have Zd := Lib.hid zd
              rw [hv2.out, hjd.out]
              refine hK.out _ _ (keep5 hHeld bb2) (fun hHeld => ?_)
              clear hK K; (try simp only [Act.put, List.setIfInBounds_toArray, List.set_cons_zero, List.set_cons_succ])
              have R2 := R1.below bb2
              have B2 := B1.trans (bb2.mono S1)
              have S2 := B2.size
              have ra := (bb2.block ja (by have := Za.out; have := Q1.out; omega)).trans ra
              have Q2 : Hid (v1.heap.size ≤ v2.heap.size) := bb2.size
              clear bb2 zd
              refine wpAnyH_ready (rs := [5]) (by kernel_rfl) (by simp) ?_
              refine AllReadyH.cons (o := _) rfl (fun K hK => ?_) AllReadyH.nil
              · go_simp
                refine (splitI_any w h A n c ps up at' _ R2 hN HK.out).mono ?_
                rintro e v3 ⟨A1, n1, c1, A2, n2, c2, rfl, hPA, hPB, bb3⟩
                have hlo3 := bb3.size
                refine hK.out _ _ (keep5 hHeld bb3) (fun hHeld => ?_)
                clear hK K; (try simp only [Act.put, List.setIfInBounds_toArray, List.set_cons_zero, List.set_cons_succ])
                have R3 := R2.below bb3
                have B3 := B2.trans (bb3.mono S2)
                have S3 := B3.size
                have ra := (bb3.block ja (by have := Za.out; have := Q1.out; have := Q2.out; omega)).trans ra
                have rd := (bb3.block jd (by have := Zd.out; have := Q1.out; have := Q2.out; omega)).trans rd
                have Q3 : Hid (v2.heap.size ≤ v3.heap.size) := bb3.size
                clear bb3 hlo3
                (refine take_yes (i := 6) (d := some 56) (v := ?_) rfl rfl (by kernel_rfl) (by kernel_rfl) (by kernel_rfl) (by rfl) (fun _ _ _ h => h) ?_ (by assumption) ?_; rotate_left; focus ((intro w' hSw; (try dsimp only at hSw); go_simp) <;> with_reducible rfl)); (try simp only [Act.put, List.setIfInBounds_toArray, List.set_cons_zero, List.set_cons_succ])
                (refine take_yes (i := 7) (d := some 63) (v := ?_) rfl rfl (by kernel_rfl) (by kernel_rfl) (by kernel_rfl) (by rfl) (fun _ _ _ h => h) ?_ (by assumption) ?_; rotate_left; focus ((intro w' hSw; (try dsimp only at hSw); go_simp) <;> with_reducible rfl)); (try simp only [Act.put, List.setIfInBounds_toArray, List.set_cons_zero, List.set_cons_succ])
                (refine take_yes (i := 8) (d := some 64) (v := ?_) rfl rfl (by kernel_rfl) (by kernel_rfl) (by kernel_rfl) (by rfl) (fun _ _ _ h => h) ?_ (by assumption) ?_; rotate_left; focus ((intro w' hSw; (try dsimp only at hSw); go_simp) <;> with_reducible rfl)); (try simp only [Act.put, List.setIfInBounds_toArray, List.set_cons_zero, List.set_cons_succ])
                (refine take_yes (i := 9) (d := some 65) (v := ?_) rfl rfl (by kernel_rfl) (by kernel_rfl) (by kernel_rfl) (by rfl) (fun _ _ _ h => h) ?_ (by assumption) ?_; rotate_left; focus ((intro w' hSw; (try dsimp only at hSw); go_simp) <;> with_reducible rfl)); (try simp only [Act.put, List.setIfInBounds_toArray, List.set_cons_zero, List.set_cons_succ])
                have N : Hid (¬ jb = ja ∧ ¬ jb = jd ∧ ¬ b = ja ∧ ¬ b = jd ∧ ¬ ja = jd ∧ wr.heap.size ≤ ja ∧ wr.heap.size ≤ jd) := by have h1 := Za.out; have h2 := Zd.out; have h3 := Q1.out; have h4 := Q2.out; have h5 := Q3.out; refine ⟨?_, ?_, ?_, ?_, ?_, ?_, ?_⟩ <;> omega
                have NA : Hid ((ja < v2.heap.size ∨ v3.heap.size ≤ ja) ∧ (jd < v2.heap.size ∨ v3.heap.size ≤ jd)) := by have h1 := Za.out; have h2 := Zd.out; have h3 := Q1.out; have h4 := Q2.out; have h5 := Q3.out; refine ⟨?_, ?_⟩ <;> omega
                obtain ⟨n1_, n2_, n3_, n4_, n5_, n6_, n7_⟩ := N.out
                obtain ⟨na_, nd_⟩ := NA.out
                have hn1_ := hPA.len
                have hn2_ := hPB.len
                have HLA := Lib.hid hn1_
                have HLB := Lib.hid hn2_
                clear hn1_ hn2_
                have sa0 : v3.cell? ⟨ja, 0, none⟩ = some (.int .i64 0) := by rw [cell_of_row _ _ _ _ _ _ ra]; rfl
                have ga0 : v3.frozen? ⟨ja, 0, none⟩ = false := frozen_of_row _ _ _ _ _ ra
                have sa1 : v3.cell? ⟨ja, 1, none⟩ = some (.int .i64 0) := by rw [cell_of_row _ _ _ _ _ _ ra]; rfl
                have ga1 : v3.frozen? ⟨ja, 1, none⟩ = false := frozen_of_row _ _ _ _ _ ra
                have sa2 : v3.cell? ⟨ja, 2, none⟩ = some (.slice none 0 0) := by rw [cell_of_row _ _ _ _ _ _ ra]; rfl
                have ga2 : v3.frozen? ⟨ja, 2, none⟩ = false := frozen_of_row _ _ _ _ _ ra
                obtain ⟨v4, hv4⟩ : ∃ v, Hid ((((v3.setCell ⟨ja, 0, none⟩ (.int .i64 (wA w ⟨up, at'⟩))).setCell ⟨ja, 1, none⟩ (.int .i64 (hA h ⟨up, at'⟩))).setCell ⟨ja, 2, none⟩ (.slice A1 n1 c1)) = v) := ⟨_, rfl⟩
                refine wpAnyH_ready (rs := [12]) (by kernel_rfl) (by simp) ?_; refine AllReadyH.cons (o := _) rfl (fun K hK => ?_) AllReadyH.nil; go_simp
                rw [hv4.out]
                have ta := row_set (o := 2) (.slice A1 n1 c1) (row_set (o := 1) (.int .i64 (hA h ⟨up, at'⟩)) (row_set (o := 0) (.int .i64 (wA w ⟨up, at'⟩)) ra))
                rw [hv4.out] at ta
                have hfara : ∀ g, g ≠ ja → v4.heap[g]? = v3.heap[g]? := fun g hg => by rw [← hv4.out, row_far _ hg, row_far _ hg, row_far _ hg]
                refine hK.out _ _ ⟨cell_blk hHeld.1 (hfara jb n1_), cell_blk hHeld.2.1 (hfara jb n1_), cell_blk hHeld.2.2.1 (hfara jb n1_), cell_blk hHeld.2.2.2.1 (hfara b n3_), cell_blk hHeld.2.2.2.2 (hfara b n3_)⟩ (fun hHeld => ?_)
                clear hK K; (try simp only [Act.put, List.setIfInBounds_toArray, List.set_cons_zero, List.set_cons_succ])
                clear sa0 sa1 sa2 ga0 ga1 ga2
                have hPA := own_set (own_set (own_set hPA na_ 0 (.int .i64 (wA w ⟨up, at'⟩))) na_ 1 (.int .i64 (hA h ⟨up, at'⟩))) na_ 2 (.slice A1 n1 c1)
                have hPB := own_set (own_set (own_set hPB na_ 0 (.int .i64 (wA w ⟨up, at'⟩))) na_ 1 (.int .i64 (hA h ⟨up, at'⟩))) na_ 2 (.slice A1 n1 c1)
                rw [hv4.out] at hPA hPB
                have BB := below_set (below_set (below_set B3 n6_ (o := 0) (.int .i64 (wA w ⟨up, at'⟩))) n6_ (o := 1) (.int .i64 (hA h ⟨up, at'⟩))) n6_ (o := 2) (.slice A1 n1 c1)
                rw [hv4.out] at BB
                have rd := (hfara jd (fun e => n5_ e.symm)).trans rd
                have sd0 : v4.cell? ⟨jd, 0, none⟩ = some (.int .i64 0) := by rw [cell_of_row _ _ _ _ _ _ rd]; rfl
                have gd0 : v4.frozen? ⟨jd, 0, none⟩ = false := frozen_of_row _ _ _ _ _ rd
                have sd1 : v4.cell? ⟨jd, 1, none⟩ = some (.int .i64 0) := by rw [cell_of_row _ _ _ _ _ _ rd]; rfl
                have gd1 : v4.frozen? ⟨jd, 1, none⟩ = false := frozen_of_row _ _ _ _ _ rd
                have sd2 : v4.cell? ⟨jd, 2, none⟩ = some (.slice none 0 0) := by rw [cell_of_row _ _ _ _ _ _ rd]; rfl
                have gd2 : v4.frozen? ⟨jd, 2, none⟩ = false := frozen_of_row _ _ _ _ _ rd
                obtain ⟨v5, hv5⟩ : ∃ v, Hid ((((v4.setCell ⟨jd, 0, none⟩ (.int .i64 (wB w ⟨up, at'⟩))).setCell ⟨jd, 1, none⟩ (.int .i64 (hB h ⟨up, at'⟩))).setCell ⟨jd, 2, none⟩ (.slice A2 n2 c2)) = v) := ⟨_, rfl⟩
                refine wpAnyH_ready (rs := [13]) (by kernel_rfl) (by simp) ?_; refine AllReadyH.cons (o := _) rfl (fun K hK => ?_) AllReadyH.nil; go_simp
                rw [hv5.out]
                have td := row_set (o := 2) (.slice A2 n2 c2) (row_set (o := 1) (.int .i64 (hB h ⟨up, at'⟩)) (row_set (o := 0) (.int .i64 (wB w ⟨up, at'⟩)) rd))
                rw [hv5.out] at td
                have hfard : ∀ g, g ≠ jd → v5.heap[g]? = v4.heap[g]? := fun g hg => by rw [← hv5.out, row_far _ hg, row_far _ hg, row_far _ hg]
                refine hK.out _ _ ⟨cell_blk hHeld.1 (hfard jb n2_), cell_blk hHeld.2.1 (hfard jb n2_), cell_blk hHeld.2.2.1 (hfard jb n2_), cell_blk hHeld.2.2.2.1 (hfard b n4_), cell_blk hHeld.2.2.2.2 (hfard b n4_)⟩ (fun hHeld => ?_)
                clear hK K; (try simp only [Act.put, List.setIfInBounds_toArray, List.set_cons_zero, List.set_cons_succ])
                clear sd0 sd1 sd2 gd0 gd1 gd2
                have hPA := own_set (own_set (own_set hPA nd_ 0 (.int .i64 (wB w ⟨up, at'⟩))) nd_ 1 (.int .i64 (hB h ⟨up, at'⟩))) nd_ 2 (.slice A2 n2 c2)
                have hPB := own_set (own_set (own_set hPB nd_ 0 (.int .i64 (wB w ⟨up, at'⟩))) nd_ 1 (.int .i64 (hB h ⟨up, at'⟩))) nd_ 2 (.slice A2 n2 c2)
                rw [hv5.out] at hPA hPB
                have BB := below_set (below_set (below_set BB n7_ (o := 0) (.int .i64 (wB w ⟨up, at'⟩))) n7_ (o := 1) (.int .i64 (hB h ⟨up, at'⟩))) n7_ (o := 2) (.slice A2 n2 c2)
                rw [hv5.out] at BB
                have ra := (hfard ja n5_).trans ta
                have rd := td
                (refine take_yes (i := 14) (d := some 11) (v := ?_) rfl rfl (by kernel_rfl) (by kernel_rfl) (by kernel_rfl) (by rfl) (fun _ _ _ h => h) ?_ (by assumption) ?_; rotate_left; focus ((intro w' hSw; (try dsimp only at hSw); go_simp) <;> with_reducible rfl)); (try simp only [Act.put, List.setIfInBounds_toArray, List.set_cons_zero, List.set_cons_succ])
                refine wpAnyH_done (by kernel_rfl) ?_ _
                have ya0 : v5.cell? ⟨ja, 0, none⟩ = some (.int .i64 (wA w ⟨up, at'⟩)) := by rw [cell_of_row _ _ _ _ _ _ ra]; rfl
                have ya1 : v5.cell? ⟨ja, 1, none⟩ = some (.int .i64 (hA h ⟨up, at'⟩)) := by rw [cell_of_row _ _ _ _ _ _ ra]; rfl
                have ya2 : v5.cell? ⟨ja, 2, none⟩ = some (.slice A1 n1 c1) := by rw [cell_of_row _ _ _ _ _ _ ra]; rfl
                have yd0 : v5.cell? ⟨jd, 0, none⟩ = some (.int .i64 (wB w ⟨up, at'⟩)) := by rw [cell_of_row _ _ _ _ _ _ rd]; rfl
                have yd1 : v5.cell? ⟨jd, 1, none⟩ = some (.int .i64 (hB h ⟨up, at'⟩)) := by rw [cell_of_row _ _ _ _ _ _ rd]; rfl
                have yd2 : v5.cell? ⟨jd, 2, none⟩ = some (.slice A2 n2 c2) := by rw [cell_of_row _ _ _ _ _ _ rd]; rfl
                have hn1 : n1 ≤ 1048576 := by have h1 := HLA.out; have h2 := pA_len ⟨up, at'⟩ ps; have h3 := HLEN.out; omega
                have hn2 : n2 ≤ 1048576 := by have h1 := HLB.out; have h2 := pB_len ⟨up, at'⟩ ps; have h3 := HLEN.out; omega
                have hPA := hPA.rd
                have hPB := hPB.rd
                have BS := BB.size
                clear ra rd ta td hfara hfard hHeld n1_ n2_ n3_ n4_ n5_ n6_ n7_ na_ nd_
                go_wp2_with fail
                go_meet
                exact ⟨ja, jd, A1, n1, c1, A2, n2, c2, rfl, rfl, rfl, ya0, ya1, ya2, yd0, yd1, yd2, hPA, hPB, BB⟩
          · go_simp
            obtain ⟨jd, hjd⟩ : ∃ j, Hid (v0.heap.size = j) := ⟨_, rfl⟩
            obtain ⟨v1, hv1⟩ : ∃ v, Hid (v0.alloc (.cells #[.int .i64 0, .int .i64 0, .slice none 0 0] 30) = v) := ⟨_, rfl⟩
            have rd : v1.heap[jd]? = some (.cells #[.int .i64 0, .int .i64 0, .slice none 0 0] 30 (0, 0)) := by rw [← hv1.out, ← hjd.out]; exact heap_alloc_new v0 _
            have bb1 : Below v0.heap.size v0 v1 := by rw [← hv1.out]; exact (Below.refl _ _).alloc (Nat.le_refl _) _
            have zd : v0.heap.size = jd ∧ v1.heap.size = jd + 1 := by rw [← hv1.out, ← hjd.out]; simp
            have Zd := Lib.hid zd
            rw [hv1.out, hjd.out]
            refine hK.out _ _ (keep5 hHeld bb1) (fun hHeld => ?_)
            clear hK K; (try simp only [Act.put, List.setIfInBounds_toArray, List.set_cons_zero, List.set_cons_succ])
            have R1 := hR0.below bb1
            have B1 := hB0.trans (bb1.mono hs0)
            have S1 := B1.size
            have Q1 : Hid (v0.heap.size ≤ v1.heap.size) := bb1.size
            clear bb1 zd
            refine wpAnyH_ready (rs := [5, 10]) (by kernel_rfl) (by simp) ?_
            refine AllReadyH.cons (o := _) rfl (fun K hK => ?_) (AllReadyH.cons (o := _) rfl (fun K hK => ?_) AllReadyH.nil)
            · go_simp
              refine (splitI_any w h A n c ps up at' _ R1 hN HK.out).mono ?_
              rintro e v2 ⟨A1, n1, c1, A2, n2, c2, rfl, hPA, hPB, bb2⟩
              have hlo2 := bb2.size
              refine hK.out _ _ (keep5 hHeld bb2) (fun hHeld => ?_)
              clear hK K; (try simp only [Act.put, List.setIfInBounds_toArray, List.set_cons_zero, List.set_cons_succ])
              have R2 := R1.below bb2
              have B2 := B1.trans (bb2.mono S1)
              have S2 := B2.size
              have rd := (bb2.block jd (by have := Zd.out; have := Q1.out; omega)).trans rd
              have Q2 : Hid (v1.heap.size ≤ v2.heap.size) := bb2.size
              clear bb2 hlo2
              (refine take_yes (i := 6) (d := some 56) (v := ?_) rfl rfl (by kernel_rfl) (by kernel_rfl) (by kernel_rfl) (by rfl) (fun _ _ _ h => h) ?_ (by assumption) ?_; rotate_left; focus ((intro w' hSw; (try dsimp only at hSw); go_simp) <;> with_reducible rfl)); (try simp only [Act.put, List.setIfInBounds_toArray, List.set_cons_zero, List.set_cons_succ])
              (refine take_yes (i := 7) (d := some 63) (v := ?_) rfl rfl (by kernel_rfl) (by kernel_rfl) (by kernel_rfl) (by rfl) (fun _ _ _ h => h) ?_ (by assumption) ?_; rotate_left; focus ((intro w' hSw; (try dsimp only at hSw); go_simp) <;> with_reducible rfl)); (try simp only [Act.put, List.setIfInBounds_toArray, List.set_cons_zero, List.set_cons_succ])
              (refine take_yes (i := 8) (d := some 64) (v := ?_) rfl rfl (by kernel_rfl) (by kernel_rfl) (by kernel_rfl) (by rfl) (fun _ _ _ h => h) ?_ (by assumption) ?_; rotate_left; focus ((intro w' hSw; (try dsimp only at hSw); go_simp) <;> with_reducible rfl)); (try simp only [Act.put, List.setIfInBounds_toArray, List.set_cons_zero, List.set_cons_succ])
              (refine take_yes (i := 9) (d := some 65) (v := ?_) rfl rfl (by kernel_rfl) (by kernel_rfl) (by kernel_rfl) (by rfl) (fun _ _ _ h => h) ?_ (by assumption) ?_; rotate_left; focus ((intro w' hSw; (try dsimp only at hSw); go_simp) <;> with_reducible rfl)); (try simp only [Act.put, List.setIfInBounds_toArray, List.set_cons_zero, List.set_cons_succ])
              refine wpAnyH_ready (rs := [10]) (by kernel_rfl) (by simp) ?_
              refine AllReadyH.cons (o := _) rfl (fun K hK => ?_) AllReadyH.nil
              · go_simp
                obtain ⟨ja, hja⟩ : ∃ j, Hid (v2.heap.size = j) := ⟨_, rfl⟩
                obtain ⟨v3, hv3⟩ : ∃ v, Hid (v2.alloc (.cells #[.int .i64 0, .int .i64 0, .slice none 0 0] 30) = v) := ⟨_, rfl⟩
                have ra : v3.heap[ja]? = some (.cells #[.int .i64 0, .int .i64 0, .slice none 0 0] 30 (0, 0)) := by rw [← hv3.out, ← hja.out]; exact heap_alloc_new v2 _
                have bb3 : Below v2.heap.size v2 v3 := by rw [← hv3.out]; exact (Below.refl _ _).alloc (Nat.le_refl _) _
                have za : v2.heap.size = ja ∧ v3.heap.size = ja + 1 := by rw [← hv3.out, ← hja.out]; simp
                have Za := Lib.hid za
                rw [hv3.out, hja.out]
                refine hK.out _ _ (keep5 hHeld bb3) (fun hHeld => ?_)
                clear hK K; (try simp only [Act.put, List.setIfInBounds_toArray, List.set_cons_zero, List.set_cons_succ])
                have R3 := R2.below bb3
                have B3 := B2.trans (bb3.mono S2)
                have S3 := B3.size
                have rd := (bb3.block jd (by have := Zd.out; have := Q1.out; have := Q2.out; omega)).trans rd
                have hPA := hPA.below bb3
                have hPB := hPB.below bb3
                have Q3 : Hid (v2.heap.size ≤ v3.heap.size) := bb3.size
                clear bb3 za
                have N : Hid (¬ jb = ja ∧ ¬ jb = jd ∧ ¬ b = ja ∧ ¬ b = jd ∧ ¬ ja = jd ∧ wr.heap.size ≤ ja ∧ wr.heap.size ≤ jd) := by have h1 := Za.out; have h2 := Zd.out; have h3 := Q1.out; have h4 := Q2.out; have h5 := Q3.out; refine ⟨?_, ?_, ?_, ?_, ?_, ?_, ?_⟩ <;> omega
                have NA : Hid ((ja < v1.heap.size ∨ v2.heap.size ≤ ja) ∧ (jd < v1.heap.size ∨ v2.heap.size ≤ jd)) := by have h1 := Za.out; have h2 := Zd.out; have h3 := Q1.out; have h4 := Q2.out; have h5 := Q3.out; refine ⟨?_, ?_⟩ <;> omega
                obtain ⟨n1_, n2_, n3_, n4_, n5_, n6_, n7_⟩ := N.out
                obtain ⟨na_, nd_⟩ := NA.out
                have hn1_ := hPA.len
                have hn2_ := hPB.len
                have HLA := Lib.hid hn1_
                have HLB := Lib.hid hn2_
                clear hn1_ hn2_
                have sa0 : v3.cell? ⟨ja, 0, none⟩ = some (.int .i64 0) := by rw [cell_of_row _ _ _ _ _ _ ra]; rfl
                have ga0 : v3.frozen? ⟨ja, 0, none⟩ = false := frozen_of_row _ _ _ _ _ ra
                have sa1 : v3.cell? ⟨ja, 1, none⟩ = some (.int .i64 0) := by rw [cell_of_row _ _ _ _ _ _ ra]; rfl
                have ga1 : v3.frozen? ⟨ja, 1, none⟩ = false := frozen_of_row _ _ _ _ _ ra
                have sa2 : v3.cell? ⟨ja, 2, none⟩ = some (.slice none 0 0) := by rw [cell_of_row _ _ _ _ _ _ ra]; rfl
                have ga2 : v3.frozen? ⟨ja, 2, none⟩ = false := frozen_of_row _ _ _ _ _ ra
                obtain ⟨v4, hv4⟩ : ∃ v, Hid ((((v3.setCell ⟨ja, 0, none⟩ (.int .i64 (wA w ⟨up, at'⟩))).setCell ⟨ja, 1, none⟩ (.int .i64 (hA h ⟨up, at'⟩))).setCell ⟨ja, 2, none⟩ (.slice A1 n1 c1)) = v) := ⟨_, rfl⟩
                refine wpAnyH_ready (rs := [12]) (by kernel_rfl) (by simp) ?_; refine AllReadyH.cons (o := _) rfl (fun K hK => ?_) AllReadyH.nil; go_simp
                rw [hv4.out]
                have ta := row_set (o := 2) (.slice A1 n1 c1) (row_set (o := 1) (.int .i64 (hA h ⟨up, at'⟩)) (row_set (o := 0) (.int .i64 (wA w ⟨up, at'⟩)) ra))
                rw [hv4.out] at ta
                have hfara : ∀ g, g ≠ ja → v4.heap[g]? = v3.heap[g]? := fun g hg => by rw [← hv4.out, row_far _ hg, row_far _ hg, row_far _ hg]
                refine hK.out _ _ ⟨cell_blk hHeld.1 (hfara jb n1_), cell_blk hHeld.2.1 (hfara jb n1_), cell_blk hHeld.2.2.1 (hfara jb n1_), cell_blk hHeld.2.2.2.1 (hfara b n3_), cell_blk hHeld.2.2.2.2 (hfara b n3_)⟩ (fun hHeld => ?_)
                clear hK K; (try simp only [Act.put, List.setIfInBounds_toArray, List.set_cons_zero, List.set_cons_succ])
                clear sa0 sa1 sa2 ga0 ga1 ga2
                have hPA := own_set (own_set (own_set hPA na_ 0 (.int .i64 (wA w ⟨up, at'⟩))) na_ 1 (.int .i64 (hA h ⟨up, at'⟩))) na_ 2 (.slice A1 n1 c1)
                have hPB := own_set (own_set (own_set hPB na_ 0 (.int .i64 (wA w ⟨up, at'⟩))) na_ 1 (.int .i64 (hA h ⟨up, at'⟩))) na_ 2 (.slice A1 n1 c1)
                rw [hv4.out] at hPA hPB
                have BB := below_set (below_set (below_set B3 n6_ (o := 0) (.int .i64 (wA w ⟨up, at'⟩))) n6_ (o := 1) (.int .i64 (hA h ⟨up, at'⟩))) n6_ (o := 2) (.slice A1 n1 c1)
                rw [hv4.out] at BB
                have rd := (hfara jd (fun e => n5_ e.symm)).trans rd
                have sd0 : v4.cell? ⟨jd, 0, none⟩ = some (.int .i64 0) := by rw [cell_of_row _ _ _ _ _ _ rd]; rfl
                have gd0 : v4.frozen? ⟨jd, 0, none⟩ = false := frozen_of_row _ _ _ _ _ rd
                have sd1 : v4.cell? ⟨jd, 1, none⟩ = some (.int .i64 0) := by rw [cell_of_row _ _ _ _ _ _ rd]; rfl
                have gd1 : v4.frozen? ⟨jd, 1, none⟩ = false := frozen_of_row _ _ _ _ _ rd
                have sd2 : v4.cell? ⟨jd, 2, none⟩ = some (.slice none 0 0) := by rw [cell_of_row _ _ _ _ _ _ rd]; rfl
                have gd2 : v4.frozen? ⟨jd, 2, none⟩ = false := frozen_of_row _ _ _ _ _ rd
                obtain ⟨v5, hv5⟩ : ∃ v, Hid ((((v4.setCell ⟨jd, 0, none⟩ (.int .i64 (wB w ⟨up, at'⟩))).setCell ⟨jd, 1, none⟩ (.int .i64 (hB h ⟨up, at'⟩))).setCell ⟨jd, 2, none⟩ (.slice A2 n2 c2)) = v) := ⟨_, rfl⟩
                refine wpAnyH_ready (rs := [13]) (by kernel_rfl) (by simp) ?_; refine AllReadyH.cons (o := _) rfl (fun K hK => ?_) AllReadyH.nil; go_simp
                rw [hv5.out]
                have td := row_set (o := 2) (.slice A2 n2 c2) (row_set (o := 1) (.int .i64 (hB h ⟨up, at'⟩)) (row_set (o := 0) (.int .i64 (wB w ⟨up, at'⟩)) rd))
                rw [hv5.out] at td
                have hfard : ∀ g, g ≠ jd → v5.heap[g]? = v4.heap[g]? := fun g hg => by rw [← hv5.out, row_far _ hg, row_far _ hg, row_far _ hg]
                refine hK.out _ _ ⟨cell_blk hHeld.1 (hfard jb n2_), cell_blk hHeld.2.1 (hfard jb n2_), cell_blk hHeld.2.2.1 (hfard jb n2_), cell_blk hHeld.2.2.2.1 (hfard b n4_), cell_blk hHeld.2.2.2.2 (hfard b n4_)⟩ (fun hHeld => ?_)
                clear hK K; (try simp only [Act.put, List.setIfInBounds_toArray, List.set_cons_zero, List.set_cons_succ])
                clear sd0 sd1 sd2 gd0 gd1 gd2
                have hPA := own_set (own_set (own_set hPA nd_ 0 (.int .i64 (wB w ⟨up, at'⟩))) nd_ 1 (.int .i64 (hB h ⟨up, at'⟩))) nd_ 2 (.slice A2 n2 c2)
                have hPB := own_set (own_set (own_set hPB nd_ 0 (.int .i64 (wB w ⟨up, at'⟩))) nd_ 1 (.int .i64 (hB h ⟨up, at'⟩))) nd_ 2 (.slice A2 n2 c2)
                rw [hv5.out] at hPA hPB
                have BB := below_set (below_set (below_set BB n7_ (o := 0) (.int .i64 (wB w ⟨up, at'⟩))) n7_ (o := 1) (.int .i64 (hB h ⟨up, at'⟩))) n7_ (o := 2) (.slice A2 n2 c2)
                rw [hv5.out] at BB
                have ra := (hfard ja n5_).trans ta
                have rd := td
                (refine take_yes (i := 14) (d := some 11) (v := ?_) rfl rfl (by kernel_rfl) (by kernel_rfl) (by kernel_rfl) (by rfl) (fun _ _ _ h => h) ?_ (by assumption) ?_; rotate_left; focus ((intro w' hSw; (try dsimp only at hSw); go_simp) <;> with_reducible rfl)); (try simp only [Act.put, List.setIfInBounds_toArray, List.set_cons_zero, List.set_cons_succ])
                refine wpAnyH_done (by kernel_rfl) ?_ _
                have ya0 : v5.cell? ⟨ja, 0, none⟩ = some (.int .i64 (wA w ⟨up, at'⟩)) := by rw [cell_of_row _ _ _ _ _ _ ra]; rfl
                have ya1 : v5.cell? ⟨ja, 1, none⟩ = some (.int .i64 (hA h ⟨up, at'⟩)) := by rw [cell_of_row _ _ _ _ _ _ ra]; rfl
                have ya2 : v5.cell? ⟨ja, 2, none⟩ = some (.slice A1 n1 c1) := by rw [cell_of_row _ _ _ _ _ _ ra]; rfl
                have yd0 : v5.cell? ⟨jd, 0, none⟩ = some (.int .i64 (wB w ⟨up, at'⟩)) := by rw [cell_of_row _ _ _ _ _ _ rd]; rfl
                have yd1 : v5.cell? ⟨jd, 1, none⟩ = some (.int .i64 (hB h ⟨up, at'⟩)) := by rw [cell_of_row _ _ _ _ _ _ rd]; rfl
                have yd2 : v5.cell? ⟨jd, 2, none⟩ = some (.slice A2 n2 c2) := by rw [cell_of_row _ _ _ _ _ _ rd]; rfl
                have hn1 : n1 ≤ 1048576 := by have h1 := HLA.out; have h2 := pA_len ⟨up, at'⟩ ps; have h3 := HLEN.out; omega
                have hn2 : n2 ≤ 1048576 := by have h1 := HLB.out; have h2 := pB_len ⟨up, at'⟩ ps; have h3 := HLEN.out; omega
                have hPA := hPA.rd
                have hPB := hPB.rd
                have BS := BB.size
                clear ra rd ta td hfara hfard hHeld n1_ n2_ n3_ n4_ n5_ n6_ n7_ na_ nd_
                go_wp2_with fail
                go_meet
                exact ⟨ja, jd, A1, n1, c1, A2, n2, c2, rfl, rfl, rfl, ya0, ya1, ya2, yd0, yd1, yd2, hPA, hPB, BB⟩
            · go_simp
              obtain ⟨ja, hja⟩ : ∃ j, Hid (v1.heap.size = j) := ⟨_, rfl⟩
              obtain ⟨v2, hv2⟩ : ∃ v, Hid (v1.alloc (.cells #[.int .i64 0, .int .i64 0, .slice none 0 0] 30) = v) := ⟨_, rfl⟩
              have ra : v2.heap[ja]? = some (.cells #[.int .i64 0, .int .i64 0, .slice none 0 0] 30 (0, 0)) := by rw [← hv2.out, ← hja.out]; exact heap_alloc_new v1 _
              have bb2 : Below v1.heap.size v1 v2 := by rw [← hv2.out]; exact (Below.refl _ _).alloc (Nat.le_refl _) _
              have za : v1.heap.size = ja ∧ v2.heap.size = ja + 1 := by rw [← hv2.out, ← hja.out]; simp
              have Za := Lib.hid za
              rw [hv2.out, hja.out]
              refine hK.out _ _ (keep5 hHeld bb2) (fun hHeld => ?_)
              clear hK K; (try simp only [Act.put, List.setIfInBounds_toArray, List.set_cons_zero, List.set_cons_succ])
              have R2 := R1.below bb2
              have B2 := B1.trans (bb2.mono S1)
              have S2 := B2.size
              have rd := (bb2.block jd (by have := Zd.out; have := Q1.out; omega)).trans rd
              have Q2 : Hid (v1.heap.size ≤ v2.heap.size) := bb2.size
              clear bb2 za
              refine wpAnyH_ready (rs := [5]) (by kernel_rfl) (by simp) ?_
              refine AllReadyH.cons (o := _) rfl (fun K hK => ?_) AllReadyH.nil
              · go_simp
                refine (splitI_any w h A n c ps up at' _ R2 hN HK.out).mono ?_
                rintro e v3 ⟨A1, n1, c1, A2, n2, c2, rfl, hPA, hPB, bb3⟩
                have hlo3 := bb3.size
                refine hK.out _ _ (keep5 hHeld bb3) (fun hHeld => ?_)
                clear hK K; (try simp only [Act.put, List.setIfInBounds_toArray, List.set_cons_zero, List.set_cons_succ])
                have R3 := R2.below bb3
                have B3 := B2.trans (bb3.mono S2)
                have S3 := B3.size
                have ra := (bb3.block ja (by have := Za.out; have := Q1.out; have := Q2.out; omega)).trans ra
                have rd := (bb3.block jd (by have := Zd.out; have := Q1.out; have := Q2.out; omega)).trans rd
                have Q3 : Hid (v2.heap.size ≤ v3.heap.size) := bb3.size
                clear bb3 hlo3
                (refine take_yes (i := 6) (d := some 56) (v := ?_) rfl rfl (by kernel_rfl) (by kernel_rfl) (by kernel_rfl) (by rfl) (fun _ _ _ h => h) ?_ (by assumption) ?_; rotate_left; focus ((intro w' hSw; (try dsimp only at hSw); go_simp) <;> with_reducible rfl)); (try simp only [Act.put, List.setIfInBounds_toArray, List.set_cons_zero, List.set_cons_succ])
                (refine take_yes (i := 7) (d := some 63) (v := ?_) rfl rfl (by kernel_rfl) (by kernel_rfl) (by kernel_rfl) (by rfl) (fun _ _ _ h => h) ?_ (by assumption) ?_; rotate_left; focus ((intro w' hSw; (try dsimp only at hSw); go_simp) <;> with_reducible rfl)); (try simp only [Act.put, List.setIfInBounds_toArray, List.set_cons_zero, List.set_cons_succ])
                (refine take_yes (i := 8) (d := some 64) (v := ?_) rfl rfl (by kernel_rfl) (by kernel_rfl) (by kernel_rfl) (by rfl) (fun _ _ _ h => h) ?_ (by assumption) ?_; rotate_left; focus ((intro w' hSw; (try dsimp only at hSw); go_simp) <;> with_reducible rfl)); (try simp only [Act.put, List.setIfInBounds_toArray, List.set_cons_zero, List.set_cons_succ])
                (refine take_yes (i := 9) (d := some 65) (v := ?_) rfl rfl (by kernel_rfl) (by kernel_rfl) (by kernel_rfl) (by rfl) (fun _ _ _ h => h) ?_ (by assumption) ?_; rotate_left; focus ((intro w' hSw; (try dsimp only at hSw); go_simp) <;> with_reducible rfl)); (try simp only [Act.put, List.setIfInBounds_toArray, List.set_cons_zero, List.set_cons_succ])
                have N : Hid (¬ jb = ja ∧ ¬ jb = jd ∧ ¬ b = ja ∧ ¬ b = jd ∧ ¬ ja = jd ∧ wr.heap.size ≤ ja ∧ wr.heap.size ≤ jd) := by have h1 := Za.out; have h2 := Zd.out; have h3 := Q1.out; have h4 := Q2.out; have h5 := Q3.out; refine ⟨?_, ?_, ?_, ?_, ?_, ?_, ?_⟩ <;> omega
                have NA : Hid ((ja < v2.heap.size ∨ v3.heap.size ≤ ja) ∧ (jd < v2.heap.size ∨ v3.heap.size ≤ jd)) := by have h1 := Za.out; have h2 := Zd.out; have h3 := Q1.out; have h4 := Q2.out; have h5 := Q3.out; refine ⟨?_, ?_⟩ <;> omega
                obtain ⟨n1_, n2_, n3_, n4_, n5_, n6_, n7_⟩ := N.out
                obtain ⟨na_, nd_⟩ := NA.out
                have hn1_ := hPA.len
                have hn2_ := hPB.len
                have HLA := Lib.hid hn1_
                have HLB := Lib.hid hn2_
                clear hn1_ hn2_
                have sa0 : v3.cell? ⟨ja, 0, none⟩ = some (.int .i64 0) := by rw [cell_of_row _ _ _ _ _ _ ra]; rfl
                have ga0 : v3.frozen? ⟨ja, 0, none⟩ = false := frozen_of_row _ _ _ _ _ ra
                have sa1 : v3.cell? ⟨ja, 1, none⟩ = some (.int .i64 0) := by rw [cell_of_row _ _ _ _ _ _ ra]; rfl
                have ga1 : v3.frozen? ⟨ja, 1, none⟩ = false := frozen_of_row _ _ _ _ _ ra
                have sa2 : v3.cell? ⟨ja, 2, none⟩ = some (.slice none 0 0) := by rw [cell_of_row _ _ _ _ _ _ ra]; rfl
                have ga2 : v3.frozen? ⟨ja, 2, none⟩ = false := frozen_of_row _ _ _ _ _ ra
                obtain ⟨v4, hv4⟩ : ∃ v, Hid ((((v3.setCell ⟨ja, 0, none⟩ (.int .i64 (wA w ⟨up, at'⟩))).setCell ⟨ja, 1, none⟩ (.int .i64 (hA h ⟨up, at'⟩))).setCell ⟨ja, 2, none⟩ (.slice A1 n1 c1)) = v) := ⟨_, rfl⟩
                refine wpAnyH_ready (rs := [12]) (by kernel_rfl) (by simp) ?_; refine AllReadyH.cons (o := _) rfl (fun K hK => ?_) AllReadyH.nil; go_simp
                rw [hv4.out]
                have ta := row_set (o := 2) (.slice A1 n1 c1) (row_set (o := 1) (.int .i64 (hA h ⟨up, at'⟩)) (row_set (o := 0) (.int .i64 (wA w ⟨up, at'⟩)) ra))
                rw [hv4.out] at ta
                have hfara : ∀ g, g ≠ ja → v4.heap[g]? = v3.heap[g]? := fun g hg => by rw [← hv4.out, row_far _ hg, row_far _ hg, row_far _ hg]
                refine hK.out _ _ ⟨cell_blk hHeld.1 (hfara jb n1_), cell_blk hHeld.2.1 (hfara jb n1_), cell_blk hHeld.2.2.1 (hfara jb n1_), cell_blk hHeld.2.2.2.1 (hfara b n3_), cell_blk hHeld.2.2.2.2 (hfara b n3_)⟩ (fun hHeld => ?_)
                clear hK K; (try simp only [Act.put, List.setIfInBounds_toArray, List.set_cons_zero, List.set_cons_succ])
                clear sa0 sa1 sa2 ga0 ga1 ga2
                have hPA := own_set (own_set (own_set hPA na_ 0 (.int .i64 (wA w ⟨up, at'⟩))) na_ 1 (.int .i64 (hA h ⟨up, at'⟩))) na_ 2 (.slice A1 n1 c1)
                have hPB := own_set (own_set (own_set hPB na_ 0 (.int .i64 (wA w ⟨up, at'⟩))) na_ 1 (.int .i64 (hA h ⟨up, at'⟩))) na_ 2 (.slice A1 n1 c1)
                rw [hv4.out] at hPA hPB
                have BB := below_set (below_set (below_set B3 n6_ (o := 0) (.int .i64 (wA w ⟨up, at'⟩))) n6_ (o := 1) (.int .i64 (hA h ⟨up, at'⟩))) n6_ (o := 2) (.slice A1 n1 c1)
                rw [hv4.out] at BB
                have rd := (hfara jd (fun e => n5_ e.symm)).trans rd
                have sd0 : v4.cell? ⟨jd, 0, none⟩ = some (.int .i64 0) := by rw [cell_of_row _ _ _ _ _ _ rd]; rfl
                have gd0 : v4.frozen? ⟨jd, 0, none⟩ = false := frozen_of_row _ _ _ _ _ rd
                have sd1 : v4.cell? ⟨jd, 1, none⟩ = some (.int .i64 0) := by rw [cell_of_row _ _ _ _ _ _ rd]; rfl
                have gd1 : v4.frozen? ⟨jd, 1, none⟩ = false := frozen_of_row _ _ _ _ _ rd
                have sd2 : v4.cell? ⟨jd, 2, none⟩ = some (.slice none 0 0) := by rw [cell_of_row _ _ _ _ _ _ rd]; rfl
                have gd2 : v4.frozen? ⟨jd, 2, none⟩ = false := frozen_of_row _ _ _ _ _ rd
                obtain ⟨v5, hv5⟩ : ∃ v, Hid ((((v4.setCell ⟨jd, 0, none⟩ (.int .i64 (wB w ⟨up, at'⟩))).setCell ⟨jd, 1, none⟩ (.int .i64 (hB h ⟨up, at'⟩))).setCell ⟨jd, 2, none⟩ (.slice A2 n2 c2)) = v) := ⟨_, rfl⟩
                refine wpAnyH_ready (rs := [13]) (by kernel_rfl) (by simp) ?_; refine AllReadyH.cons (o := _) rfl (fun K hK => ?_) AllReadyH.nil; go_simp
                rw [hv5.out]
                have td := row_set (o := 2) (.slice A2 n2 c2) (row_set (o := 1) (.int .i64 (hB h ⟨up, at'⟩)) (row_set (o := 0) (.int .i64 (wB w ⟨up, at'⟩)) rd))
                rw [hv5.out] at td
                have hfard : ∀ g, g ≠ jd → v5.heap[g]? = v4.heap[g]? := fun g hg => by rw [← hv5.out, row_far _ hg, row_far _ hg, row_far _ hg]
                refine hK.out _ _ ⟨cell_blk hHeld.1 (hfard jb n2_), cell_blk hHeld.2.1 (hfard jb n2_), cell_blk hHeld.2.2.1 (hfard jb n2_), cell_blk hHeld.2.2.2.1 (hfard b n4_), cell_blk hHeld.2.2.2.2 (hfard b n4_)⟩ (fun hHeld => ?_)
                clear hK K; (try simp only [Act.put, List.setIfInBounds_toArray, List.set_cons_zero, List.set_cons_succ])
                clear sd0 sd1 sd2 gd0 gd1 gd2
                have hPA := own_set (own_set (own_set hPA nd_ 0 (.int .i64 (wB w ⟨up, at'⟩))) nd_ 1 (.int .i64 (hB h ⟨up, at'⟩))) nd_ 2 (.slice A2 n2 c2)
                have hPB := own_set (own_set (own_set hPB nd_ 0 (.int .i64 (wB w ⟨up, at'⟩))) nd_ 1 (.int .i64 (hB h ⟨up, at'⟩))) nd_ 2 (.slice A2 n2 c2)
                rw [hv5.out] at hPA hPB
                have BB := below_set (below_set (below_set BB n7_ (o := 0) (.int .i64 (wB w ⟨up, at'⟩))) n7_ (o := 1) (.int .i64 (hB h ⟨up, at'⟩))) n7_ (o := 2) (.slice A2 n2 c2)
                rw [hv5.out] at BB
                have ra := (hfard ja n5_).trans ta
                have rd := td
                (refine take_yes (i := 14) (d := some 11) (v := ?_) rfl rfl (by kernel_rfl) (by kernel_rfl) (by kernel_rfl) (by rfl) (fun _ _ _ h => h) ?_ (by assumption) ?_; rotate_left; focus ((intro w' hSw; (try dsimp only at hSw); go_simp) <;> with_reducible rfl)); (try simp only [Act.put, List.setIfInBounds_toArray, List.set_cons_zero, List.set_cons_succ])
                refine wpAnyH_done (by kernel_rfl) ?_ _
                have ya0 : v5.cell? ⟨ja, 0, none⟩ = some (.int .i64 (wA w ⟨up, at'⟩)) := by rw [cell_of_row _ _ _ _ _ _ ra]; rfl
                have ya1 : v5.cell? ⟨ja, 1, none⟩ = some (.int .i64 (hA h ⟨up, at'⟩)) := by rw [cell_of_row _ _ _ _ _ _ ra]; rfl
                have ya2 : v5.cell? ⟨ja, 2, none⟩ = some (.slice A1 n1 c1) := by rw [cell_of_row _ _ _ _ _ _ ra]; rfl
                have yd0 : v5.cell? ⟨jd, 0, none⟩ = some (.int .i64 (wB w ⟨up, at'⟩)) := by rw [cell_of_row _ _ _ _ _ _ rd]; rfl
                have yd1 : v5.cell? ⟨jd, 1, none⟩ = some (.int .i64 (hB h ⟨up, at'⟩)) := by rw [cell_of_row _ _ _ _ _ _ rd]; rfl
                have yd2 : v5.cell? ⟨jd, 2, none⟩ = some (.slice A2 n2 c2) := by rw [cell_of_row _ _ _ _ _ _ rd]; rfl
                have hn1 : n1 ≤ 1048576 := by have h1 := HLA.out; have h2 := pA_len ⟨up, at'⟩ ps; have h3 := HLEN.out; omega
                have hn2 : n2 ≤ 1048576 := by have h1 := HLB.out; have h2 := pB_len ⟨up, at'⟩ ps; have h3 := HLEN.out; omega
                have hPA := hPA.rd
                have hPB := hPB.rd
                have BS := BB.size
                clear ra rd ta td hfara hfard hHeld n1_ n2_ n3_ n4_ n5_ n6_ n7_ na_ nd_
                go_wp2_with fail
                go_meet
                exact ⟨ja, jd, A1, n1, c1, A2, n2, c2, rfl, rfl, rfl, ya0, ya1, ya2, yd0, yd1, yd2, hPA, hPB, BB⟩
        case rest =>
          obtain ⟨ja, jd, A1, n1, c1, A2, n2, c2, rfl, rfl, rfl, ya0, ya1, ya2, yd0, yd1, yd2, hPA, hPB, hBx⟩ := hcut
          have hn1e := hPA.len; have hn2e := hPB.len
          have hsum : n1 + n2 = n := by have h1 := HLS.out; have h2 := HLEN.out; omega
          have hn1 : n1 ≤ 1048576 := by omega
          have hn2 : n2 ≤ 1048576 := by omega
          have hwsum : IntKind.i64.wrap ((n1 : Int) + (n2 : Int)) = (n : Int) := by rw [IntKind.wrap_i64]; omega
          clear hn1e hn2e hsum
          obtain ⟨hPO1, hPO2, _, _⟩ := HPO.out
          have HPO1 := Lib.hid hPO1; have HPO2 := Lib.hid hPO2; clear hPO1 hPO2
          replace e0 := keepcell e0 hBx
          replace e1 := keepcell e1 hBx
          replace e2 := keepcell e2 hBx
          replace q0 := keepcell q0 hBx
          replace q1 := keepcell q1 hBx
          have hRx := HRR.out.below hBx
          go_wp2_with fail
          refine wp_region_held_drew (S := fun v => v.cell? ⟨jb, 0, none⟩ = some (.int .i64 w) ∧ v.cell? ⟨jb, 1, none⟩ = some (.int .i64 h) ∧ v.cell? ⟨jb, 2, none⟩ = some (.slice A n c) ∧ v.cell? ⟨ja, 0, none⟩ = some (.int .i64 (wA w ⟨up, at'⟩)) ∧ v.cell? ⟨ja, 1, none⟩ = some (.int .i64 (hA h ⟨up, at'⟩)) ∧ v.cell? ⟨ja, 2, none⟩ = some (.slice A1 n1 c1) ∧ v.cell? ⟨jd, 0, none⟩ = some (.int .i64 (wB w ⟨up, at'⟩)) ∧ v.cell? ⟨jd, 1, none⟩ = some (.int .i64 (hB h ⟨up, at'⟩)) ∧ v.cell? ⟨jd, 2, none⟩ = some (.slice A2 n2 c2) ∧ v.cell? ⟨b, off + k * 2, none⟩ = some (.bool up) ∧ v.cell? ⟨b, off + k * 2 + 1, none⟩ = some (.int .i64 at')) (by kernel_rfl) ⟨keep_drew e0, keep_drew e1, keep_drew e2, keep_drew ya0, keep_drew ya1, keep_drew ya2, keep_drew yd0, keep_drew yd1, keep_drew yd2, keep_drew q0, keep_drew q1⟩ (fun hHeld => ?_)
          replace hBx : Below wr.heap.size wr (World.drew wc) := hBx.drew
          replace hRx : Rd (World.drew wc) A n 5 ps patchC := hRx
          replace hPA : Rd (World.drew wc) A1 n1 5 (partA ⟨up, at'⟩ ps) patchC := hPA
          replace hPB : Rd (World.drew wc) A2 n2 5 (partB ⟨up, at'⟩ ps) patchC := hPB
          clear e0 e1 e2 ya0 ya1 ya2 yd0 yd1 yd2 q0 q1
          obtain ⟨u0, hu0⟩ : ∃ v, Hid (World.drew wc = v) := ⟨_, rfl⟩
          rw [hu0.out] at hHeld hBx hRx hPA hPB ⊢
          (refine take_yes (i := 0) (d := some 66) (v := ?_) rfl rfl (by kernel_rfl) (by kernel_rfl) (by kernel_rfl) (by rfl) (fun _ _ _ h => h) ?_ (by assumption) ?_; rotate_left; focus ((intro w' hSw; (try dsimp only at hSw); go_simp) <;> with_reducible rfl)); (try simp only [Act.put, List.setIfInBounds_toArray, List.set_cons_zero, List.set_cons_succ])
          (refine take_yes (i := 1) (d := some 67) (v := ?_) rfl rfl (by kernel_rfl) (by kernel_rfl) (by kernel_rfl) (by rfl) (fun _ _ _ h => h) ?_ (by assumption) ?_; rotate_left; focus ((intro w' hSw; (try dsimp only at hSw); go_simp) <;> with_reducible rfl)); (try simp only [Act.put, List.setIfInBounds_toArray, List.set_cons_zero, List.set_cons_succ])
          (refine take_yes (i := 2) (d := some 68) (v := ?_) rfl rfl (by kernel_rfl) (by kernel_rfl) (by kernel_rfl) (by rfl) (fun _ _ _ h => h) ?_ (by assumption) ?_; rotate_left; focus ((intro w' hSw; (try dsimp only at hSw); go_simp) <;> with_reducible rfl)); (try simp only [Act.put, List.setIfInBounds_toArray, List.set_cons_zero, List.set_cons_succ])
          (refine take_yes (i := 3) (d := some 69) (v := ?_) rfl rfl (by kernel_rfl) (by kernel_rfl) (by kernel_rfl) (by rfl) (fun _ _ _ h => h) ?_ (by assumption) ?_; rotate_left; focus ((intro w' hSw; (try dsimp only at hSw); go_simp) <;> with_reducible rfl)); (try simp only [Act.put, List.setIfInBounds_toArray, List.set_cons_zero, List.set_cons_succ])
          (refine take_yes (i := 4) (d := some 70) (v := ?_) rfl rfl (by kernel_rfl) (by kernel_rfl) (by kernel_rfl) (by rfl) (fun _ _ _ h => h) ?_ (by assumption) ?_; rotate_left; focus ((intro w' hSw; (try dsimp only at hSw); go_simp) <;> with_reducible rfl)); (try simp only [Act.put, List.setIfInBounds_toArray, List.set_cons_zero, List.set_cons_succ])
          (refine take_yes (i := 5) (d := some 71) (v := ?_) rfl rfl (by kernel_rfl) (by kernel_rfl) (by kernel_rfl) (by rfl) (fun _ _ _ h => h) ?_ (by assumption) ?_; rotate_left; focus ((intro w' hSw; (try dsimp only at hSw); go_simp) <;> with_reducible rfl)); (try simp only [Act.put, List.setIfInBounds_toArray, List.set_cons_zero, List.set_cons_succ])
          (refine take_yes (i := 6) (d := some 72) (v := ?_) rfl rfl (by kernel_rfl) (by kernel_rfl) (by kernel_rfl) (by rfl) (fun _ _ _ h => h) ?_ (by assumption) ?_; rotate_left; focus ((intro w' hSw; (try dsimp only at hSw); go_simp) <;> with_reducible rfl)); (try simp only [Act.put, List.setIfInBounds_toArray, List.set_cons_zero, List.set_cons_succ])
          (refine take_yes (i := 7) (d := some 73) (v := ?_) rfl rfl (by kernel_rfl) (by kernel_rfl) (by kernel_rfl) (by rfl) (fun _ _ _ h => h) ?_ (by assumption) ?_; rotate_left; focus ((intro w' hSw; (try dsimp only at hSw); go_simp) <;> with_reducible rfl)); (try simp only [Act.put, List.setIfInBounds_toArray, List.set_cons_zero, List.set_cons_succ])
          refine wpAnyH_ready (rs := [8]) (by kernel_rfl) (by simp) ?_; refine AllReadyH.cons (o := _) rfl (fun K hK => ?_) AllReadyH.nil; go_simp; (go_at_call 57; refine (isCutI_any w h A n c ps up at' _ hRx hN).mono ?_; rw [HK.out]; rintro e u1 ⟨rfl, bb1⟩)
          refine hK.out _ _ ⟨keepcell (hHeld.1) bb1, keepcell (hHeld.2.1) bb1, keepcell (hHeld.2.2.1) bb1, keepcell (hHeld.2.2.2.1) bb1, keepcell (hHeld.2.2.2.2.1) bb1, keepcell (hHeld.2.2.2.2.2.1) bb1, keepcell (hHeld.2.2.2.2.2.2.1) bb1, keepcell (hHeld.2.2.2.2.2.2.2.1) bb1, keepcell (hHeld.2.2.2.2.2.2.2.2.1) bb1, keepcell (hHeld.2.2.2.2.2.2.2.2.2.1) bb1, keepcell (hHeld.2.2.2.2.2.2.2.2.2.2) bb1⟩ (fun hHeld => ?_)
          clear hK K; (try simp only [Act.put, List.setIfInBounds_toArray, List.set_cons_zero, List.set_cons_succ])
          replace hBx := hBx.trans (bb1.mono hBx.size)
          replace hRx := hRx.below bb1
          replace hPA := hPA.below bb1
          replace hPB := hPB.below bb1
          clear bb1
          (refine take_yes (i := 9) (d := some 75) (v := ?_) rfl rfl (by kernel_rfl) (by kernel_rfl) (by kernel_rfl) (by rfl) (fun _ _ _ h => h) ?_ (by assumption) ?_; rotate_left; focus ((intro w' hSw; (try dsimp only at hSw); go_simp) <;> with_reducible rfl)); (try simp only [Act.put, List.setIfInBounds_toArray, List.set_cons_zero, List.set_cons_succ])
          (refine take_yes (i := 10) (d := some 76) (v := ?_) rfl rfl (by kernel_rfl) (by kernel_rfl) (by kernel_rfl) (by rfl) (fun _ _ _ h => h) ?_ (by assumption) ?_; rotate_left; focus ((intro w' hSw; (try dsimp only at hSw); go_simp) <;> with_reducible rfl)); (try simp only [Act.put, List.setIfInBounds_toArray, List.set_cons_zero, List.set_cons_succ])
          (refine take_yes (i := 11) (d := some 77) (v := ?_) rfl rfl (by kernel_rfl) (by kernel_rfl) (by kernel_rfl) (by rfl) (fun _ _ _ h => h) ?_ (by assumption) ?_; rotate_left; focus ((intro w' hSw; (try dsimp only at hSw); go_simp) <;> with_reducible rfl)); (try simp only [Act.put, List.setIfInBounds_toArray, List.set_cons_zero, List.set_cons_succ])
          (refine take_yes (i := 12) (d := some 78) (v := ?_) rfl rfl (by kernel_rfl) (by kernel_rfl) (by kernel_rfl) (by rfl) (fun _ _ _ h => h) ?_ (by assumption) ?_; rotate_left; focus ((intro w' hSw; (try dsimp only at hSw); go_simp) <;> with_reducible rfl)); (try simp only [Act.put, List.setIfInBounds_toArray, List.set_cons_zero, List.set_cons_succ])
          refine wpAnyH_ready (rs := [13]) (by kernel_rfl) (by simp) ?_; refine AllReadyH.cons (o := _) rfl (fun K hK => ?_) AllReadyH.nil; go_simp; (go_at_call 58; refine (layoutS_any (wA w ⟨up, at'⟩) (hA h ⟨up, at'⟩) A1 n1 c1 (partA ⟨up, at'⟩ ps) _ hPA hn1).mono ?_; rw [HPO1.out]; rintro e u2 ⟨rfl, bb2⟩)
          refine hK.out _ _ ⟨keepcell (hHeld.1) bb2, keepcell (hHeld.2.1) bb2, keepcell (hHeld.2.2.1) bb2, keepcell (hHeld.2.2.2.1) bb2, keepcell (hHeld.2.2.2.2.1) bb2, keepcell (hHeld.2.2.2.2.2.1) bb2, keepcell (hHeld.2.2.2.2.2.2.1) bb2, keepcell (hHeld.2.2.2.2.2.2.2.1) bb2, keepcell (hHeld.2.2.2.2.2.2.2.2.1) bb2, keepcell (hHeld.2.2.2.2.2.2.2.2.2.1) bb2, keepcell (hHeld.2.2.2.2.2.2.2.2.2.2) bb2⟩ (fun hHeld => ?_)
          clear hK K; (try simp only [Act.put, List.setIfInBounds_toArray, List.set_cons_zero, List.set_cons_succ])
          replace hBx := hBx.trans (bb2.mono hBx.size)
          replace hRx := hRx.below bb2
          replace hPA := hPA.below bb2
          replace hPB := hPB.below bb2
          clear bb2
          (refine take_yes (i := 14) (d := some 80) (v := ?_) rfl rfl (by kernel_rfl) (by kernel_rfl) (by kernel_rfl) (by rfl) (fun _ _ _ h => h) ?_ (by assumption) ?_; rotate_left; focus ((intro w' hSw; (try dsimp only at hSw); go_simp) <;> with_reducible rfl)); (try simp only [Act.put, List.setIfInBounds_toArray, List.set_cons_zero, List.set_cons_succ])
          (refine take_yes (i := 15) (d := some 81) (v := ?_) rfl rfl (by kernel_rfl) (by kernel_rfl) (by kernel_rfl) (by rfl) (fun _ _ _ h => h) ?_ (by assumption) ?_; rotate_left; focus ((intro w' hSw; (try dsimp only at hSw); go_simp) <;> with_reducible rfl)); (try simp only [Act.put, List.setIfInBounds_toArray, List.set_cons_zero, List.set_cons_succ])
          (refine take_yes (i := 16) (d := some 82) (v := ?_) rfl rfl (by kernel_rfl) (by kernel_rfl) (by kernel_rfl) (by rfl) (fun _ _ _ h => h) ?_ (by assumption) ?_; rotate_left; focus ((intro w' hSw; (try dsimp only at hSw); go_simp) <;> with_reducible rfl)); (try simp only [Act.put, List.setIfInBounds_toArray, List.set_cons_zero, List.set_cons_succ])
          (refine take_yes (i := 17) (d := some 83) (v := ?_) rfl rfl (by kernel_rfl) (by kernel_rfl) (by kernel_rfl) (by rfl) (fun _ _ _ h => h) ?_ (by assumption) ?_; rotate_left; focus ((intro w' hSw; (try dsimp only at hSw); go_simp) <;> with_reducible rfl)); (try simp only [Act.put, List.setIfInBounds_toArray, List.set_cons_zero, List.set_cons_succ])
          refine wpAnyH_ready (rs := [18]) (by kernel_rfl) (by simp) ?_; refine AllReadyH.cons (o := _) rfl (fun K hK => ?_) AllReadyH.nil; go_simp; (go_at_call 58; refine (layoutS_any (wB w ⟨up, at'⟩) (hB h ⟨up, at'⟩) A2 n2 c2 (partB ⟨up, at'⟩ ps) _ hPB hn2).mono ?_; rw [HPO2.out]; rintro e u3 ⟨rfl, bb3⟩)
          refine hK.out _ _ ⟨keepcell (hHeld.1) bb3, keepcell (hHeld.2.1) bb3, keepcell (hHeld.2.2.1) bb3, keepcell (hHeld.2.2.2.1) bb3, keepcell (hHeld.2.2.2.2.1) bb3, keepcell (hHeld.2.2.2.2.2.1) bb3, keepcell (hHeld.2.2.2.2.2.2.1) bb3, keepcell (hHeld.2.2.2.2.2.2.2.1) bb3, keepcell (hHeld.2.2.2.2.2.2.2.2.1) bb3, keepcell (hHeld.2.2.2.2.2.2.2.2.2.1) bb3, keepcell (hHeld.2.2.2.2.2.2.2.2.2.2) bb3⟩ (fun hHeld => ?_)
          clear hK K; (try simp only [Act.put, List.setIfInBounds_toArray, List.set_cons_zero, List.set_cons_succ])
          replace hBx := hBx.trans (bb3.mono hBx.size)
          replace hRx := hRx.below bb3
          replace hPA := hPA.below bb3
          replace hPB := hPB.below bb3
          clear bb3
          (refine take_yes (i := 19) (d := some 85) (v := ?_) rfl rfl (by kernel_rfl) (by kernel_rfl) (by kernel_rfl) (by rfl) (fun _ _ _ h => h) ?_ (by assumption) ?_; rotate_left; focus ((intro w' hSw; (try dsimp only at hSw); go_simp) <;> with_reducible rfl)); (try simp only [Act.put, List.setIfInBounds_toArray, List.set_cons_zero, List.set_cons_succ])
          (refine take_yes (i := 20) (d := some 86) (v := ?_) rfl rfl (by kernel_rfl) (by kernel_rfl) (by kernel_rfl) (by rfl) (fun _ _ _ h => h) ?_ (by assumption) ?_; rotate_left; focus ((intro w' hSw; (try dsimp only at hSw); go_simp) <;> with_reducible rfl)); (try simp only [Act.put, List.setIfInBounds_toArray, List.set_cons_zero, List.set_cons_succ])
          (refine take_yes (i := 21) (d := some 87) (v := ?_) rfl rfl (by kernel_rfl) (by kernel_rfl) (by kernel_rfl) (by rfl) (fun _ _ _ h => h) ?_ (by assumption) ?_; rotate_left; focus ((intro w' hSw; (try dsimp only at hSw); go_simp) <;> with_reducible rfl)); (try simp only [Act.put, List.setIfInBounds_toArray, List.set_cons_zero, List.set_cons_succ])
          (refine take_yes (i := 22) (d := some 88) (v := ?_) rfl rfl (by kernel_rfl) (by kernel_rfl) (by kernel_rfl) (by rfl) (fun _ _ _ h => h) ?_ (by assumption) ?_; rotate_left; focus ((intro w' hSw; (try dsimp only at hSw); go_simp) <;> with_reducible rfl)); (try simp only [Act.put, List.setIfInBounds_toArray, List.set_cons_zero, List.set_cons_succ])
          (refine take_yes (i := 23) (d := some 89) (v := ?_) rfl rfl (by kernel_rfl) (by kernel_rfl) (by kernel_rfl) (by rfl) (fun _ _ _ h => h) ?_ (by assumption) ?_; rotate_left; focus ((intro w' hSw; (try dsimp only at hSw); go_simp) <;> with_reducible rfl)); (try simp only [Act.put, List.setIfInBounds_toArray, List.set_cons_zero, List.set_cons_succ])
          (refine take_yes (i := 24) (d := some 90) (v := ?_) rfl rfl (by kernel_rfl) (by kernel_rfl) (by kernel_rfl) (by rfl) (fun _ _ _ h => h) ?_ (by assumption) ?_; rotate_left; focus ((intro w' hSw; (try dsimp only at hSw); go_simp) <;> with_reducible rfl)); (try simp only [Act.put, List.setIfInBounds_toArray, List.set_cons_zero, List.set_cons_succ])
          (refine take_yes (i := 25) (d := some 91) (v := ?_) rfl rfl (by kernel_rfl) (by kernel_rfl) (by kernel_rfl) (by rfl) (fun _ _ _ h => h) ?_ (by assumption) ?_; rotate_left; focus ((intro w' hSw; (try dsimp only at hSw); go_simp) <;> with_reducible rfl)); (try simp only [Act.put, List.setIfInBounds_toArray, List.set_cons_zero, List.set_cons_succ])
          (refine take_yes (i := 26) (d := some 92) (v := ?_) rfl rfl (by kernel_rfl) (by kernel_rfl) (by kernel_rfl) (by rfl) (fun _ _ _ h => h) ?_ (by assumption) ?_; rotate_left; focus ((intro w' hSw; (try dsimp only at hSw); go_simp) <;> with_reducible rfl)); (try simp only [Act.put, List.setIfInBounds_toArray, List.set_cons_zero, List.set_cons_succ])
          (refine take_yes (i := 27) (d := some 93) (v := ?_) rfl rfl (by kernel_rfl) (by kernel_rfl) (by kernel_rfl) (by rfl) (fun _ _ _ h => h) ?_ (by assumption) ?_; rotate_left; focus ((intro w' hSw; (try dsimp only at hSw); go_simp) <;> with_reducible rfl)); (try simp only [Act.put, List.setIfInBounds_toArray, List.set_cons_zero, List.set_cons_succ])
          (refine take_yes (i := 28) (d := some 94) (v := ?_) rfl rfl (by kernel_rfl) (by kernel_rfl) (by kernel_rfl) (by rfl) (fun _ _ _ h => h) ?_ (by assumption) ?_; rotate_left; focus ((intro w' hSw; (try dsimp only at hSw); go_simp) <;> with_reducible rfl)); (try simp only [Act.put, List.setIfInBounds_toArray, List.set_cons_zero, List.set_cons_succ])
          (refine take_yes (i := 29) (d := some 95) (v := ?_) rfl rfl (by kernel_rfl) (by kernel_rfl) (by kernel_rfl) (by rfl) (fun _ _ _ h => h) ?_ (by assumption) ?_; rotate_left; focus ((intro w' hSw; (try dsimp only at hSw); go_simp) <;> with_reducible rfl)); (try simp only [Act.put, List.setIfInBounds_toArray, List.set_cons_zero, List.set_cons_succ])
          (refine take_yes (i := 30) (d := some 96) (v := ?_) rfl rfl (by kernel_rfl) (by kernel_rfl) (by kernel_rfl) (by rfl) (fun _ _ _ h => h) ?_ (by assumption) ?_; rotate_left; focus ((intro w' hSw; (try dsimp only at hSw); go_simp) <;> with_reducible rfl)); (try simp only [Act.put, List.setIfInBounds_toArray, List.set_cons_zero, List.set_cons_succ])
          (refine take_yes (i := 31) (d := some 97) (v := ?_) rfl rfl (by kernel_rfl) (by kernel_rfl) (by kernel_rfl) (by rfl) (fun _ _ _ h => h) ?_ (by assumption) ?_; rotate_left; focus ((intro w' hSw; (try dsimp only at hSw); go_simp) <;> with_reducible rfl)); (try simp only [Act.put, List.setIfInBounds_toArray, List.set_cons_zero, List.set_cons_succ])
          (refine take_yes (i := 32) (d := some 98) (v := ?_) rfl rfl (by kernel_rfl) (by kernel_rfl) (by kernel_rfl) (by rfl) (fun _ _ _ h => h) ?_ (by assumption) ?_; rotate_left; focus ((intro w' hSw; (try dsimp only at hSw); go_simp) <;> with_reducible rfl)); (try simp only [Act.put, List.setIfInBounds_toArray, List.set_cons_zero, List.set_cons_succ])
          (refine take_yes (i := 33) (d := some 99) (v := ?_) rfl rfl (by kernel_rfl) (by kernel_rfl) (by kernel_rfl) (by rfl) (fun _ _ _ h => h) ?_ (by assumption) ?_; rotate_left; focus ((intro w' hSw; (try dsimp only at hSw); go_simp) <;> with_reducible rfl)); (try simp only [Act.put, List.setIfInBounds_toArray, List.set_cons_zero, List.set_cons_succ])
          (refine take_yes (i := 34) (d := some 100) (v := ?_) rfl rfl (by kernel_rfl) (by kernel_rfl) (by kernel_rfl) (by rfl) (fun _ _ _ h => h) ?_ (by assumption) ?_; rotate_left; focus ((intro w' hSw; (try dsimp only at hSw); go_simp) <;> with_reducible rfl)); (try simp only [Act.put, List.setIfInBounds_toArray, List.set_cons_zero, List.set_cons_succ])
          (refine take_yes (i := 35) (d := some 101) (v := ?_) rfl rfl (by kernel_rfl) (by kernel_rfl) (by kernel_rfl) (by rfl) (fun _ _ _ h => h) ?_ (by assumption) ?_; rotate_left; focus ((intro w' hSw; (try dsimp only at hSw); go_simp) <;> with_reducible rfl)); (try simp only [Act.put, List.setIfInBounds_toArray, List.set_cons_zero, List.set_cons_succ])
          (refine take_yes (i := 41) (d := some 107) (v := ?_) rfl rfl (by kernel_rfl) (by kernel_rfl) (by kernel_rfl) (by rfl) (fun _ _ _ h => h) ?_ (by assumption) ?_; rotate_left; focus ((intro w' hSw; (try dsimp only at hSw); go_simp) <;> with_reducible rfl)); (try simp only [Act.put, List.setIfInBounds_toArray, List.set_cons_zero, List.set_cons_succ])
          have hab := HAB.out
          rcases hsa : canSew ⟨wA w ⟨up, at'⟩, hA h ⟨up, at'⟩, partA ⟨up, at'⟩ ps⟩ with _ | _
          · rw [hsa] at hab
            cases hab
          · rw [hsa] at hab
            have hsb : canSew ⟨wB w ⟨up, at'⟩, hB h ⟨up, at'⟩, partB ⟨up, at'⟩ ps⟩ = true := by rw [Bool.true_and] at hab; exact hab
            have HSA := Lib.hid hsa; have HSB := Lib.hid hsb
            clear hsa hab hsb
            refine wpAnyH_ready (rs := [36]) (by kernel_rfl) (by simp) ?_; refine AllReadyH.cons (o := _) rfl (fun K hK => ?_) AllReadyH.nil; go_simp; (go_at_call 52; refine (canSewI_any (wA w ⟨up, at'⟩) (hA h ⟨up, at'⟩) A1 n1 c1 (partA ⟨up, at'⟩ ps) _ hPA hn1).mono ?_; rw [HSA.out]; rintro e u4 ⟨rfl, bb4⟩)
            refine hK.out _ _ ⟨keepcell (hHeld.1) bb4, keepcell (hHeld.2.1) bb4, keepcell (hHeld.2.2.1) bb4, keepcell (hHeld.2.2.2.1) bb4, keepcell (hHeld.2.2.2.2.1) bb4, keepcell (hHeld.2.2.2.2.2.1) bb4, keepcell (hHeld.2.2.2.2.2.2.1) bb4, keepcell (hHeld.2.2.2.2.2.2.2.1) bb4, keepcell (hHeld.2.2.2.2.2.2.2.2.1) bb4, keepcell (hHeld.2.2.2.2.2.2.2.2.2.1) bb4, keepcell (hHeld.2.2.2.2.2.2.2.2.2.2) bb4⟩ (fun hHeld => ?_)
            clear hK K; (try simp only [Act.put, List.setIfInBounds_toArray, List.set_cons_zero, List.set_cons_succ])
            replace hBx := hBx.trans (bb4.mono hBx.size)
            replace hRx := hRx.below bb4
            replace hPA := hPA.below bb4
            replace hPB := hPB.below bb4
            clear bb4
            (refine take_yes (i := 37) (d := some 103) (v := ?_) rfl rfl (by kernel_rfl) (by kernel_rfl) (by kernel_rfl) (by rfl) (fun _ _ _ h => h) ?_ (by assumption) ?_; rotate_left; focus ((intro w' hSw; (try dsimp only at hSw); go_simp) <;> with_reducible rfl)); (try simp only [Act.put, List.setIfInBounds_toArray, List.set_cons_zero, List.set_cons_succ])
            (refine take_yes (i := 38) (d := some 104) (v := ?_) rfl rfl (by kernel_rfl) (by kernel_rfl) (by kernel_rfl) (by rfl) (fun _ _ _ h => h) ?_ (by assumption) ?_; rotate_left; focus ((intro w' hSw; (try dsimp only at hSw); go_simp) <;> with_reducible rfl)); (try simp only [Act.put, List.setIfInBounds_toArray, List.set_cons_zero, List.set_cons_succ])
            refine wpAnyH_ready (rs := [39]) (by kernel_rfl) (by simp) ?_; refine AllReadyH.cons (o := _) rfl (fun K hK => ?_) AllReadyH.nil; go_simp; (go_at_call 52; refine (canSewI_any (wB w ⟨up, at'⟩) (hB h ⟨up, at'⟩) A2 n2 c2 (partB ⟨up, at'⟩ ps) _ hPB hn2).mono ?_; rw [HSB.out]; rintro e u5 ⟨rfl, bb5⟩)
            refine hK.out _ _ ⟨keepcell (hHeld.1) bb5, keepcell (hHeld.2.1) bb5, keepcell (hHeld.2.2.1) bb5, keepcell (hHeld.2.2.2.1) bb5, keepcell (hHeld.2.2.2.2.1) bb5, keepcell (hHeld.2.2.2.2.2.1) bb5, keepcell (hHeld.2.2.2.2.2.2.1) bb5, keepcell (hHeld.2.2.2.2.2.2.2.1) bb5, keepcell (hHeld.2.2.2.2.2.2.2.2.1) bb5, keepcell (hHeld.2.2.2.2.2.2.2.2.2.1) bb5, keepcell (hHeld.2.2.2.2.2.2.2.2.2.2) bb5⟩ (fun hHeld => ?_)
            clear hK K; (try simp only [Act.put, List.setIfInBounds_toArray, List.set_cons_zero, List.set_cons_succ])
            replace hBx := hBx.trans (bb5.mono hBx.size)
            replace hRx := hRx.below bb5
            replace hPA := hPA.below bb5
            replace hPB := hPB.below bb5
            clear bb5
            (refine take_yes (i := 40) (d := some 106) (v := ?_) rfl rfl (by kernel_rfl) (by kernel_rfl) (by kernel_rfl) (by rfl) (fun _ _ _ h => h) ?_ (by assumption) ?_; rotate_left; focus ((intro w' hSw; (try dsimp only at hSw); go_simp) <;> with_reducible rfl)); (try simp only [Act.put, List.setIfInBounds_toArray, List.set_cons_zero, List.set_cons_succ])
            (refine take_yes (i := 42) (d := some 108) (v := ?_) rfl rfl (by kernel_rfl) (by kernel_rfl) (by kernel_rfl) (by rfl) (fun _ _ _ h => h) ?_ (by assumption) ?_; rotate_left; focus ((intro w' hSw; (try dsimp only at hSw); go_simp) <;> with_reducible rfl)); (try simp only [Act.put, List.setIfInBounds_toArray, List.set_cons_zero, List.set_cons_succ])
            (refine take_yes (i := 43) (d := some 109) (v := ?_) rfl rfl (by kernel_rfl) (by kernel_rfl) (by kernel_rfl) (by rfl) (fun _ _ _ h => h) ?_ (by assumption) ?_; rotate_left; focus ((intro w' hSw; (try dsimp only at hSw); go_simp) <;> with_reducible rfl)); (try simp only [Act.put, List.setIfInBounds_toArray, List.set_cons_zero, List.set_cons_succ])
            refine wpAnyH_done (by kernel_rfl) ?_ _
            clear hHeld hwsum
            go_wp2_with fail
            go_roundw
            case rel => exact ⟨k + 1, by omega, by go_num, hBl.trans (hBx.mono hz)⟩
            case measure => simp [intOf]; omega
      · obtain rfl : k = M := by omega
        have hRr := hR7.below hBl
        have hBw := hB7.trans (hBl.mono hB7.size)
        have hQr := (hBl.block j6 hj67).trans HQ7.out
        have HKR := Lib.hid (hK7.below hBl)
        clear hBl HP7 HQ7 pr hz hB7 hR7 hC7 hjb7 hj67
        clear hQr
        go_wp2_with fail
        refine (sampleI_any _).mono ?_
        rintro e u3 ⟨gs, rfl, hAs, bb3⟩
        replace e0 := keepcell e0 bb3
        replace e1 := keepcell e1 bb3
        replace e2 := keepcell e2 bb3
        replace hBw := hBw.trans (bb3.mono hBw.size)
        replace hRr := hRr.below bb3
        have hRs : Rd u3 (some ⟨gs, 0, none⟩) 5 5 sampleP patchC := acc_rd (xs := sampleP) hAs patchC_len
        clear bb3 hAs
        go_wp2_with fail
        refine (canSewI_any 3 3 (some ⟨gs, 0, none⟩) 5 5 sampleP _ hRs (by omega)).mono ?_
        rw [sample_knot]
        rintro e u4 ⟨rfl, bb4⟩
        replace e0 := keepcell e0 bb4
        replace e1 := keepcell e1 bb4
        replace e2 := keepcell e2 bb4
        replace hBw := hBw.trans (bb4.mono hBw.size)
        replace hRr := hRr.below bb4
        clear bb4 hRs
        go_wp2_with fail
        refine (cutsOfS_any w h A n c ps _ hRr hN).mono ?_
        rw [hM.out]
        rintro e u5 ⟨C10, k10, rfl, hk10, hO10, bb5⟩
        replace hBw := hBw.trans (bb5.mono hBw.size)
        clear bb5 hO10 hRr
        go_wp2_with fail
        go_ret
        exact ⟨rfl, hBw⟩

end Go.Proofs.Ytmjdgplkcocgmaa
