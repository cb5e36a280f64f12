/-
  The walks of the exact laws of this seat, out of the contracts.
-/
import Derived.Test.YtgdnonciobjceaaChnC
import Derived.Test.YtgdnonciobjceaaFlatIntSS
set_option linter.unusedVariables false
namespace Go.Proofs.Ytgdnonciobjceaa
open Go.RowKit

theorem walk_FnExactChainRounds (A0 : Option Addr) (n0 c0 : Nat) (xs0 : List Join) (a1 : Int) (W : World) (hk0_ : n0 ≤ c0) (hm0_ : c0 ≤ maxLen) (hR0 : Rd W A0 n0 3 xs0 joinC) (hw1 : (Lit.int .i64 a1).wf = true) :
    Calls Try.prog 7 #[.slice A0 n0 c0, .int .i64 a1] W fun e w' => e = .returned (.bool true) ∧ Below W.heap.size W w' := by
  clear hw1
  rcases (szLeft_cases (1048576) n0) with ⟨hl0, hs0⟩ | ⟨hl0, hs0⟩
  · go_enter Try.func7, Try.ntmps7
    go_wp2_with (first | (go_at_call 9; refine (szJoinS_any _ _ _ _ _ (by omega) (by omega) (by unfold maxLen at *; omega)).mono ?_; rintro e w' ⟨rfl, rfl⟩))
    go_ret
    exact ⟨rfl, by (repeat (first | exact Below.refl _ _ | assumption | (refine Below.drew ?_) | (refine below_drewN ?_ _) | (refine Below.alloc ?_ (by first | exact Nat.le_refl _ | (simp; done) | (simp; omega) | omega) _) | (refine Below.setCell ?_ (by first | exact Nat.le_refl _ | (simp; done) | (simp; omega) | omega) _) | (refine Below.trans ?_ (Below.mono (by assumption) (by first | exact Nat.le_refl _ | (simp; done) | (simp; omega) | omega)))))⟩
  obtain ⟨hRn, hRr⟩ := chain_small xs0 a1
  have hRl := lens_le (rows := (chainRounds xs0 a1)) (m := 11) hRr
  have hrrR : ∀ r ∈ (chainRounds xs0 a1), r.length ≤ 1048576 := fun r hr => by have := hRr r hr; omega
  have hsumR : ((chainRounds xs0 a1).map List.length).sum ≤ 4194304 := by have := hRl; unfold lens at this; omega
  clear hRr
  go_enter Try.func7, Try.ntmps7
  go_wp2_with (first | (go_at_call 9; refine (szJoinS_any _ _ _ _ _ (by omega) (by omega) (by unfold maxLen at *; omega)).mono ?_; rintro e w' ⟨rfl, rfl⟩))
  go_wp2_with fail
  refine (toJoinS_any A0 n0 c0 xs0 _ hR0 (by omega)).mono ?_
  rintro e w1 ⟨A_1, c_1, rfl, hk_1, hO1, hb1⟩
  obtain ⟨hc1, hf1⟩ := bcell hb1
  have hz1 := hb1.size
  try simp at hz1
  have hB1 : Below W.heap.size W w1 := by (repeat (first | exact Below.refl _ _ | assumption | (refine Below.drew ?_) | (refine below_drewN ?_ _) | (refine Below.alloc ?_ (by first | exact Nat.le_refl _ | (simp; done) | (simp; omega) | omega) _) | (refine Below.setCell ?_ (by first | exact Nat.le_refl _ | (simp; done) | (simp; omega) | omega) _) | (refine Below.trans ?_ (Below.mono (by assumption) (by first | exact Nat.le_refl _ | (simp; done) | (simp; omega) | omega)))))
  have hs1 : W.heap.size ≤ w1.heap.size := hB1.size
  go_wp2_with fail
  refine (chainS_any _ _ _ _ a1 _ (hO1.rd) (by omega)).mono ?_
  rintro e w2 ⟨A_2, c_2, rfl, hk_2, hO2, hb2⟩
  obtain ⟨hc2, hf2⟩ := bcell hb2
  have hz2 := hb2.size
  try simp at hz2
  have hB2 : Below W.heap.size W w2 := by (repeat (first | exact Below.refl _ _ | assumption | (refine Below.drew ?_) | (refine below_drewN ?_ _) | (refine Below.alloc ?_ (by first | exact Nat.le_refl _ | (simp; done) | (simp; omega) | omega) _) | (refine Below.setCell ?_ (by first | exact Nat.le_refl _ | (simp; done) | (simp; omega) | omega) _) | (refine Below.trans ?_ (Below.mono (by assumption) (by first | exact Nat.le_refl _ | (simp; done) | (simp; omega) | omega)))))
  have hs2 : W.heap.size ≤ w2.heap.size := hB2.size
  replace hO1 := hO1.below hb2
  go_wp2_with fail
  refine (toJoinS_any A0 n0 c0 xs0 _ (hR0.below (by (repeat (first | exact Below.refl _ _ | assumption | (refine Below.drew ?_) | (refine below_drewN ?_ _) | (refine Below.alloc ?_ (by first | exact Nat.le_refl _ | (simp; done) | (simp; omega) | omega) _) | (refine Below.setCell ?_ (by first | exact Nat.le_refl _ | (simp; done) | (simp; omega) | omega) _) | (refine Below.trans ?_ (Below.mono (by assumption) (by first | exact Nat.le_refl _ | (simp; done) | (simp; omega) | omega))))))) (by omega)).mono ?_
  rintro e w3 ⟨A_3, c_3, rfl, hk_3, hO3, hb3⟩
  obtain ⟨hc3, hf3⟩ := bcell hb3
  have hz3 := hb3.size
  try simp at hz3
  have hB3 : Below W.heap.size W w3 := by (repeat (first | exact Below.refl _ _ | assumption | (refine Below.drew ?_) | (refine below_drewN ?_ _) | (refine Below.alloc ?_ (by first | exact Nat.le_refl _ | (simp; done) | (simp; omega) | omega) _) | (refine Below.setCell ?_ (by first | exact Nat.le_refl _ | (simp; done) | (simp; omega) | omega) _) | (refine Below.trans ?_ (Below.mono (by assumption) (by first | exact Nat.le_refl _ | (simp; done) | (simp; omega) | omega)))))
  have hs3 : W.heap.size ≤ w3.heap.size := hB3.size
  replace hO2 := hO2.below hb3
  go_wp2_with fail
  refine (chainI_any _ _ _ _ a1 _ (hO3.rd) (by omega)).mono ?_
  rintro e w4 ⟨A_4, c_4, rfl, hk_4, hO4, hb4⟩
  obtain ⟨hc4, hf4⟩ := bcell hb4
  have hz4 := hb4.size
  try simp at hz4
  have hB4 : Below W.heap.size W w4 := by (repeat (first | exact Below.refl _ _ | assumption | (refine Below.drew ?_) | (refine below_drewN ?_ _) | (refine Below.alloc ?_ (by first | exact Nat.le_refl _ | (simp; done) | (simp; omega) | omega) _) | (refine Below.setCell ?_ (by first | exact Nat.le_refl _ | (simp; done) | (simp; omega) | omega) _) | (refine Below.trans ?_ (Below.mono (by assumption) (by first | exact Nat.le_refl _ | (simp; done) | (simp; omega) | omega)))))
  have hs4 : W.heap.size ≤ w4.heap.size := hB4.size
  replace hO2 := hO2.below hb4
  replace hO3 := hO3.below hb4
  go_wp2_with fail
  refine (eqIntSS_any _ _ (chainRounds xs0 a1).length _ _ (chainRounds xs0 a1) _ hO4.rd hO2.rd (by omega) (hrrR)).mono ?_
  rintro e w5 ⟨rfl, hb5⟩
  obtain ⟨hc5, hf5⟩ := bcell hb5
  have hz5 := hb5.size
  try simp at hz5
  have hB5 : Below W.heap.size W w5 := by (repeat (first | exact Below.refl _ _ | assumption | (refine Below.drew ?_) | (refine below_drewN ?_ _) | (refine Below.alloc ?_ (by first | exact Nat.le_refl _ | (simp; done) | (simp; omega) | omega) _) | (refine Below.setCell ?_ (by first | exact Nat.le_refl _ | (simp; done) | (simp; omega) | omega) _) | (refine Below.trans ?_ (Below.mono (by assumption) (by first | exact Nat.le_refl _ | (simp; done) | (simp; omega) | omega)))))
  have hs5 : W.heap.size ≤ w5.heap.size := hB5.size
  replace hO2 := hO2.below hb5
  replace hO3 := hO3.below hb5
  replace hO4 := hO4.below hb5
  go_wp2_with fail
  refine (toJoinS_any A0 n0 c0 xs0 _ (hR0.below (by (repeat (first | exact Below.refl _ _ | assumption | (refine Below.drew ?_) | (refine below_drewN ?_ _) | (refine Below.alloc ?_ (by first | exact Nat.le_refl _ | (simp; done) | (simp; omega) | omega) _) | (refine Below.setCell ?_ (by first | exact Nat.le_refl _ | (simp; done) | (simp; omega) | omega) _) | (refine Below.trans ?_ (Below.mono (by assumption) (by first | exact Nat.le_refl _ | (simp; done) | (simp; omega) | omega))))))) (by omega)).mono ?_
  rintro e w6 ⟨A_6, c_6, rfl, hk_6, hO6, hb6⟩
  obtain ⟨hc6, hf6⟩ := bcell hb6
  have hz6 := hb6.size
  try simp at hz6
  have hB6 : Below W.heap.size W w6 := by (repeat (first | exact Below.refl _ _ | assumption | (refine Below.drew ?_) | (refine below_drewN ?_ _) | (refine Below.alloc ?_ (by first | exact Nat.le_refl _ | (simp; done) | (simp; omega) | omega) _) | (refine Below.setCell ?_ (by first | exact Nat.le_refl _ | (simp; done) | (simp; omega) | omega) _) | (refine Below.trans ?_ (Below.mono (by assumption) (by first | exact Nat.le_refl _ | (simp; done) | (simp; omega) | omega)))))
  have hs6 : W.heap.size ≤ w6.heap.size := hB6.size
  replace hO2 := hO2.below hb6
  replace hO3 := hO3.below hb6
  replace hO4 := hO4.below hb6
  go_wp2_with fail
  refine (eqJoinS_any _ _ n0 _ _ xs0 _ hO3.rd hO6.rd (by omega)).mono ?_
  rintro e w7 ⟨rfl, hb7⟩
  obtain ⟨hc7, hf7⟩ := bcell hb7
  have hz7 := hb7.size
  try simp at hz7
  have hB7 : Below W.heap.size W w7 := by (repeat (first | exact Below.refl _ _ | assumption | (refine Below.drew ?_) | (refine below_drewN ?_ _) | (refine Below.alloc ?_ (by first | exact Nat.le_refl _ | (simp; done) | (simp; omega) | omega) _) | (refine Below.setCell ?_ (by first | exact Nat.le_refl _ | (simp; done) | (simp; omega) | omega) _) | (refine Below.trans ?_ (Below.mono (by assumption) (by first | exact Nat.le_refl _ | (simp; done) | (simp; omega) | omega)))))
  have hs7 : W.heap.size ≤ w7.heap.size := hB7.size
  replace hO2 := hO2.below hb7
  replace hO3 := hO3.below hb7
  replace hO4 := hO4.below hb7
  replace hO6 := hO6.below hb7
  go_wp2_with fail
  refine (markJoinS_any _ _ _ _ _ (1) _ _ hO3 (by omega) (by omega) (by omega)).mono ?_
  rintro e w8 ⟨rfl, hM, hg8⟩
  clear hO3
  have hO3 := hM
  clear hM
  have hz8 := hg8.size
  have hB8 : Below W.heap.size W w8 := below_only hB7 hg8 hs7 (by omega)
  have hs8 : W.heap.size ≤ w8.heap.size := hB8.size
  replace hO2 := hO2.only hg8 (by omega)
  replace hO4 := hO4.only hg8 (by omega)
  go_wp2_with fail
  refine (eqIntSS_any _ _ (chainRounds xs0 a1).length _ _ (chainRounds xs0 a1) _ hO4.rd hO2.rd (by omega) (hrrR)).mono ?_
  rintro e w9 ⟨rfl, hb9⟩
  obtain ⟨hc9, hf9⟩ := bcell hb9
  have hz9 := hb9.size
  try simp at hz9
  have hB9 : Below W.heap.size W w9 := by (repeat (first | exact Below.refl _ _ | assumption | (refine Below.drew ?_) | (refine below_drewN ?_ _) | (refine Below.alloc ?_ (by first | exact Nat.le_refl _ | (simp; done) | (simp; omega) | omega) _) | (refine Below.setCell ?_ (by first | exact Nat.le_refl _ | (simp; done) | (simp; omega) | omega) _) | (refine Below.trans ?_ (Below.mono (by assumption) (by first | exact Nat.le_refl _ | (simp; done) | (simp; omega) | omega)))))
  have hs9 : W.heap.size ≤ w9.heap.size := hB9.size
  replace hO2 := hO2.below hb9
  replace hO4 := hO4.below hb9
  go_wp2_with fail
  refine (markIntSS_any _ _ _ _ _ (1) (chainRounds xs0 a1) _ hO4 (by omega) (by omega) (by omega) (by omega)).mono ?_
  rintro e w10 ⟨rfl, hM, hg10⟩
  clear hO4
  have hO4 := hM
  clear hM
  have hz10 := hg10.size
  have hB10 : Below W.heap.size W w10 := below_only hB9 hg10 hs9 (by omega)
  have hs10 : W.heap.size ≤ w10.heap.size := hB10.size
  replace hO2 := hO2.only hg10 (by omega)
  go_wp2_with fail
  refine (heldIntSS_any _ _ _ (1) ((chainRounds xs0 a1).map List.length) _ hO4.rd (by omega) (by omega) (by omega) (by omega)).mono ?_
  rintro e w' ⟨he, rfl⟩
  replace he : e = .returned (.int .i64 (1 + (lens (chainRounds xs0 a1) : Int))) := he
  subst he
  go_wp2_with fail
  refine (toJoinS_any A0 n0 c0 xs0 _ (hR0.below (by (repeat (first | exact Below.refl _ _ | assumption | (refine Below.drew ?_) | (refine below_drewN ?_ _) | (refine Below.alloc ?_ (by first | exact Nat.le_refl _ | (simp; done) | (simp; omega) | omega) _) | (refine Below.setCell ?_ (by first | exact Nat.le_refl _ | (simp; done) | (simp; omega) | omega) _) | (refine Below.trans ?_ (Below.mono (by assumption) (by first | exact Nat.le_refl _ | (simp; done) | (simp; omega) | omega))))))) (by omega)).mono ?_
  rintro e w11 ⟨A_11, c_11, rfl, hk_11, hO11, hb11⟩
  obtain ⟨hc11, hf11⟩ := bcell hb11
  have hz11 := hb11.size
  try simp at hz11
  have hB11 : Below W.heap.size W w11 := by (repeat (first | exact Below.refl _ _ | assumption | (refine Below.drew ?_) | (refine below_drewN ?_ _) | (refine Below.alloc ?_ (by first | exact Nat.le_refl _ | (simp; done) | (simp; omega) | omega) _) | (refine Below.setCell ?_ (by first | exact Nat.le_refl _ | (simp; done) | (simp; omega) | omega) _) | (refine Below.trans ?_ (Below.mono (by assumption) (by first | exact Nat.le_refl _ | (simp; done) | (simp; omega) | omega)))))
  have hs11 : W.heap.size ≤ w11.heap.size := hB11.size
  replace hO2 := hO2.below hb11
  replace hO4 := hO4.below hb11
  go_wp2_with fail
  refine (chainI_any _ _ _ _ a1 _ (hO11.rd) (by omega)).mono ?_
  rintro e w12 ⟨A_12, c_12, rfl, hk_12, hO12, hb12⟩
  obtain ⟨hc12, hf12⟩ := bcell hb12
  have hz12 := hb12.size
  try simp at hz12
  have hB12 : Below W.heap.size W w12 := by (repeat (first | exact Below.refl _ _ | assumption | (refine Below.drew ?_) | (refine below_drewN ?_ _) | (refine Below.alloc ?_ (by first | exact Nat.le_refl _ | (simp; done) | (simp; omega) | omega) _) | (refine Below.setCell ?_ (by first | exact Nat.le_refl _ | (simp; done) | (simp; omega) | omega) _) | (refine Below.trans ?_ (Below.mono (by assumption) (by first | exact Nat.le_refl _ | (simp; done) | (simp; omega) | omega)))))
  have hs12 : W.heap.size ≤ w12.heap.size := hB12.size
  replace hO2 := hO2.below hb12
  replace hO4 := hO4.below hb12
  replace hO11 := hO11.below hb12
  go_wp2_with fail
  refine (eqIntSS_any _ _ (chainRounds xs0 a1).length _ _ (chainRounds xs0 a1) _ hO12.rd hO2.rd (by omega) (hrrR)).mono ?_
  rintro e w13 ⟨rfl, hb13⟩
  obtain ⟨hc13, hf13⟩ := bcell hb13
  have hz13 := hb13.size
  try simp at hz13
  have hB13 : Below W.heap.size W w13 := by (repeat (first | exact Below.refl _ _ | assumption | (refine Below.drew ?_) | (refine below_drewN ?_ _) | (refine Below.alloc ?_ (by first | exact Nat.le_refl _ | (simp; done) | (simp; omega) | omega) _) | (refine Below.setCell ?_ (by first | exact Nat.le_refl _ | (simp; done) | (simp; omega) | omega) _) | (refine Below.trans ?_ (Below.mono (by assumption) (by first | exact Nat.le_refl _ | (simp; done) | (simp; omega) | omega)))))
  have hs13 : W.heap.size ≤ w13.heap.size := hB13.size
  replace hO2 := hO2.below hb13
  replace hO4 := hO4.below hb13
  replace hO12 := hO12.below hb13
  go_wp2_with fail
  refine (heldIntSS_any _ _ _ (1) ((chainRounds xs0 a1).map List.length) _ hO4.rd (by omega) (by omega) (by omega) (by omega)).mono ?_
  rintro e w' ⟨he, rfl⟩
  replace he : e = .returned (.int .i64 (1 + (lens (chainRounds xs0 a1) : Int))) := he
  subst he
  go_wp2_with fail
  go_ret
  exact ⟨rfl, by (repeat (first | exact Below.refl _ _ | assumption | (refine Below.drew ?_) | (refine below_drewN ?_ _) | (refine Below.alloc ?_ (by first | exact Nat.le_refl _ | (simp; done) | (simp; omega) | omega) _) | (refine Below.setCell ?_ (by first | exact Nat.le_refl _ | (simp; done) | (simp; omega) | omega) _) | (refine Below.trans ?_ (Below.mono (by assumption) (by first | exact Nat.le_refl _ | (simp; done) | (simp; omega) | omega)))))⟩

theorem walk_FnExactMostChained (A0 : Option Addr) (n0 c0 : Nat) (xs0 : List Join) (a1 : Int) (W : World) (hk0_ : n0 ≤ c0) (hm0_ : c0 ≤ maxLen) (hR0 : Rd W A0 n0 3 xs0 joinC) (hw1 : (Lit.int .i64 a1).wf = true) :
    Calls Try.prog 8 #[.slice A0 n0 c0, .int .i64 a1] W fun e w' => e = .returned (.bool true) ∧ Below W.heap.size W w' := by
  clear hw1
  rcases (szLeft_cases (1048576) n0) with ⟨hl0, hs0⟩ | ⟨hl0, hs0⟩
  · go_enter Try.func8, Try.ntmps8
    go_wp2_with (first | (go_at_call 9; refine (szJoinS_any _ _ _ _ _ (by omega) (by omega) (by unfold maxLen at *; omega)).mono ?_; rintro e w' ⟨rfl, rfl⟩))
    go_ret
    exact ⟨rfl, by (repeat (first | exact Below.refl _ _ | assumption | (refine Below.drew ?_) | (refine below_drewN ?_ _) | (refine Below.alloc ?_ (by first | exact Nat.le_refl _ | (simp; done) | (simp; omega) | omega) _) | (refine Below.setCell ?_ (by first | exact Nat.le_refl _ | (simp; done) | (simp; omega) | omega) _) | (refine Below.trans ?_ (Below.mono (by assumption) (by first | exact Nat.le_refl _ | (simp; done) | (simp; omega) | omega)))))⟩
  go_enter Try.func8, Try.ntmps8
  go_wp2_with (first | (go_at_call 9; refine (szJoinS_any _ _ _ _ _ (by omega) (by omega) (by unfold maxLen at *; omega)).mono ?_; rintro e w' ⟨rfl, rfl⟩))
  go_wp2_with fail
  refine (toJoinS_any A0 n0 c0 xs0 _ hR0 (by omega)).mono ?_
  rintro e w1 ⟨A_1, c_1, rfl, hk_1, hO1, hb1⟩
  obtain ⟨hc1, hf1⟩ := bcell hb1
  have hz1 := hb1.size
  try simp at hz1
  have hB1 : Below W.heap.size W w1 := by (repeat (first | exact Below.refl _ _ | assumption | (refine Below.drew ?_) | (refine below_drewN ?_ _) | (refine Below.alloc ?_ (by first | exact Nat.le_refl _ | (simp; done) | (simp; omega) | omega) _) | (refine Below.setCell ?_ (by first | exact Nat.le_refl _ | (simp; done) | (simp; omega) | omega) _) | (refine Below.trans ?_ (Below.mono (by assumption) (by first | exact Nat.le_refl _ | (simp; done) | (simp; omega) | omega)))))
  have hs1 : W.heap.size ≤ w1.heap.size := hB1.size
  go_wp2_with fail
  refine (mostS_any _ _ _ _ a1 _ (hO1.rd) (by omega)).mono ?_
  rintro e w2 ⟨rfl, hb2⟩
  obtain ⟨hc2, hf2⟩ := bcell hb2
  have hz2 := hb2.size
  try simp at hz2
  have hB2 : Below W.heap.size W w2 := by (repeat (first | exact Below.refl _ _ | assumption | (refine Below.drew ?_) | (refine below_drewN ?_ _) | (refine Below.alloc ?_ (by first | exact Nat.le_refl _ | (simp; done) | (simp; omega) | omega) _) | (refine Below.setCell ?_ (by first | exact Nat.le_refl _ | (simp; done) | (simp; omega) | omega) _) | (refine Below.trans ?_ (Below.mono (by assumption) (by first | exact Nat.le_refl _ | (simp; done) | (simp; omega) | omega)))))
  have hs2 : W.heap.size ≤ w2.heap.size := hB2.size
  replace hO1 := hO1.below hb2
  go_wp2_with fail
  refine (toJoinS_any A0 n0 c0 xs0 _ (hR0.below (by (repeat (first | exact Below.refl _ _ | assumption | (refine Below.drew ?_) | (refine below_drewN ?_ _) | (refine Below.alloc ?_ (by first | exact Nat.le_refl _ | (simp; done) | (simp; omega) | omega) _) | (refine Below.setCell ?_ (by first | exact Nat.le_refl _ | (simp; done) | (simp; omega) | omega) _) | (refine Below.trans ?_ (Below.mono (by assumption) (by first | exact Nat.le_refl _ | (simp; done) | (simp; omega) | omega))))))) (by omega)).mono ?_
  rintro e w3 ⟨A_3, c_3, rfl, hk_3, hO3, hb3⟩
  obtain ⟨hc3, hf3⟩ := bcell hb3
  have hz3 := hb3.size
  try simp at hz3
  have hB3 : Below W.heap.size W w3 := by (repeat (first | exact Below.refl _ _ | assumption | (refine Below.drew ?_) | (refine below_drewN ?_ _) | (refine Below.alloc ?_ (by first | exact Nat.le_refl _ | (simp; done) | (simp; omega) | omega) _) | (refine Below.setCell ?_ (by first | exact Nat.le_refl _ | (simp; done) | (simp; omega) | omega) _) | (refine Below.trans ?_ (Below.mono (by assumption) (by first | exact Nat.le_refl _ | (simp; done) | (simp; omega) | omega)))))
  have hs3 : W.heap.size ≤ w3.heap.size := hB3.size
  go_wp2_with fail
  refine (mostI_any _ _ _ _ a1 _ (hO3.rd) (by omega)).mono ?_
  rintro e w4 ⟨rfl, hb4⟩
  obtain ⟨hc4, hf4⟩ := bcell hb4
  have hz4 := hb4.size
  try simp at hz4
  have hB4 : Below W.heap.size W w4 := by (repeat (first | exact Below.refl _ _ | assumption | (refine Below.drew ?_) | (refine below_drewN ?_ _) | (refine Below.alloc ?_ (by first | exact Nat.le_refl _ | (simp; done) | (simp; omega) | omega) _) | (refine Below.setCell ?_ (by first | exact Nat.le_refl _ | (simp; done) | (simp; omega) | omega) _) | (refine Below.trans ?_ (Below.mono (by assumption) (by first | exact Nat.le_refl _ | (simp; done) | (simp; omega) | omega)))))
  have hs4 : W.heap.size ≤ w4.heap.size := hB4.size
  replace hO3 := hO3.below hb4
  go_wp2_with fail
  refine (toJoinS_any A0 n0 c0 xs0 _ (hR0.below (by (repeat (first | exact Below.refl _ _ | assumption | (refine Below.drew ?_) | (refine below_drewN ?_ _) | (refine Below.alloc ?_ (by first | exact Nat.le_refl _ | (simp; done) | (simp; omega) | omega) _) | (refine Below.setCell ?_ (by first | exact Nat.le_refl _ | (simp; done) | (simp; omega) | omega) _) | (refine Below.trans ?_ (Below.mono (by assumption) (by first | exact Nat.le_refl _ | (simp; done) | (simp; omega) | omega))))))) (by omega)).mono ?_
  rintro e w5 ⟨A_5, c_5, rfl, hk_5, hO5, hb5⟩
  obtain ⟨hc5, hf5⟩ := bcell hb5
  have hz5 := hb5.size
  try simp at hz5
  have hB5 : Below W.heap.size W w5 := by (repeat (first | exact Below.refl _ _ | assumption | (refine Below.drew ?_) | (refine below_drewN ?_ _) | (refine Below.alloc ?_ (by first | exact Nat.le_refl _ | (simp; done) | (simp; omega) | omega) _) | (refine Below.setCell ?_ (by first | exact Nat.le_refl _ | (simp; done) | (simp; omega) | omega) _) | (refine Below.trans ?_ (Below.mono (by assumption) (by first | exact Nat.le_refl _ | (simp; done) | (simp; omega) | omega)))))
  have hs5 : W.heap.size ≤ w5.heap.size := hB5.size
  replace hO3 := hO3.below hb5
  go_wp2_with fail
  refine (eqJoinS_any _ _ n0 _ _ xs0 _ hO3.rd hO5.rd (by omega)).mono ?_
  rintro e w6 ⟨rfl, hb6⟩
  obtain ⟨hc6, hf6⟩ := bcell hb6
  have hz6 := hb6.size
  try simp at hz6
  have hB6 : Below W.heap.size W w6 := by (repeat (first | exact Below.refl _ _ | assumption | (refine Below.drew ?_) | (refine below_drewN ?_ _) | (refine Below.alloc ?_ (by first | exact Nat.le_refl _ | (simp; done) | (simp; omega) | omega) _) | (refine Below.setCell ?_ (by first | exact Nat.le_refl _ | (simp; done) | (simp; omega) | omega) _) | (refine Below.trans ?_ (Below.mono (by assumption) (by first | exact Nat.le_refl _ | (simp; done) | (simp; omega) | omega)))))
  have hs6 : W.heap.size ≤ w6.heap.size := hB6.size
  replace hO3 := hO3.below hb6
  replace hO5 := hO5.below hb6
  go_wp2_with fail
  go_ret
  exact ⟨rfl, by (repeat (first | exact Below.refl _ _ | assumption | (refine Below.drew ?_) | (refine below_drewN ?_ _) | (refine Below.alloc ?_ (by first | exact Nat.le_refl _ | (simp; done) | (simp; omega) | omega) _) | (refine Below.setCell ?_ (by first | exact Nat.le_refl _ | (simp; done) | (simp; omega) | omega) _) | (refine Below.trans ?_ (Below.mono (by assumption) (by first | exact Nat.le_refl _ | (simp; done) | (simp; omega) | omega)))))⟩

end Go.Proofs.Ytgdnonciobjceaa
