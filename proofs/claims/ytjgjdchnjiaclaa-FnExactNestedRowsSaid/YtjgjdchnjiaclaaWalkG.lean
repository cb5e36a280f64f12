/-
  The walks of the exact laws of this seat, out of the contracts.
-/
import Derived.Test.YtjgjdchnjiaclaaPressD
import Derived.Test.YtjgjdchnjiaclaaFlatBoolSS
set_option linter.unusedVariables false
namespace Go.Proofs.Ytjgjdchnjiaclaa
open Go.RowKit

theorem walk_FnExactNestedRows (a0 : Int) (a1 : Int) (a2 : Bool) (W : World) (hw0 : (Lit.int .i64 a0).wf = true) (hw1 : (Lit.int .i64 a1).wf = true) :
    Calls Try.prog 4 #[.int .i64 a0, .int .i64 a1, .bool a2] W fun e w' => e = .returned (.bool true) ∧ Below W.heap.size W w' := by
  clear hw0 hw1
  obtain ⟨hRn, hRl, hRr⟩ := nested_small a0 a1 a2
  have hrrR : ∀ r ∈ (nested a0 a1 a2), r.length ≤ 1048576 := fun r hr => by have := hRr r hr; omega
  have hsumR : ((nested a0 a1 a2).map List.length).sum ≤ 4194304 := by have := hRl; unfold lens at this; omega
  clear hRr
  go_enter Try.func4, Try.ntmps4
  go_wp2_with fail
  go_wp2_with fail
  refine (nestedS_any a0 a1 a2 _).mono ?_
  rintro e w1 ⟨A_1, c_1, rfl, hk_1, hO1, hb1⟩
  obtain ⟨hc1, hf1⟩ := bcell hb1
  have hz1 := hb1.size
  try simp at hz1
  have hB1 : Below W.heap.size W w1 := by (repeat (first | exact Below.refl _ _ | assumption | (refine Below.drew ?_) | (refine below_drewN ?_ _) | (refine Below.alloc ?_ (by first | exact Nat.le_refl _ | (simp; done) | (simp; omega) | omega) _) | (refine Below.setCell ?_ (by first | exact Nat.le_refl _ | (simp; done) | (simp; omega) | omega) _) | (refine Below.trans ?_ (Below.mono (by assumption) (by first | exact Nat.le_refl _ | (simp; done) | (simp; omega) | omega)))))
  have hs1 : W.heap.size ≤ w1.heap.size := hB1.size
  go_wp2_with fail
  refine (nestedI_any a0 a1 a2 _).mono ?_
  rintro e w2 ⟨A_2, c_2, rfl, hk_2, hO2, hb2⟩
  obtain ⟨hc2, hf2⟩ := bcell hb2
  have hz2 := hb2.size
  try simp at hz2
  have hB2 : Below W.heap.size W w2 := by (repeat (first | exact Below.refl _ _ | assumption | (refine Below.drew ?_) | (refine below_drewN ?_ _) | (refine Below.alloc ?_ (by first | exact Nat.le_refl _ | (simp; done) | (simp; omega) | omega) _) | (refine Below.setCell ?_ (by first | exact Nat.le_refl _ | (simp; done) | (simp; omega) | omega) _) | (refine Below.trans ?_ (Below.mono (by assumption) (by first | exact Nat.le_refl _ | (simp; done) | (simp; omega) | omega)))))
  have hs2 : W.heap.size ≤ w2.heap.size := hB2.size
  replace hO1 := hO1.below hb2
  go_wp2_with fail
  refine (eqBoolSS_any _ _ (nested a0 a1 a2).length _ _ (nested a0 a1 a2) _ hO2.rd hO1.rd (by omega) (hrrR)).mono ?_
  rintro e w3 ⟨rfl, hb3⟩
  obtain ⟨hc3, hf3⟩ := bcell hb3
  have hz3 := hb3.size
  try simp at hz3
  have hB3 : Below W.heap.size W w3 := by (repeat (first | exact Below.refl _ _ | assumption | (refine Below.drew ?_) | (refine below_drewN ?_ _) | (refine Below.alloc ?_ (by first | exact Nat.le_refl _ | (simp; done) | (simp; omega) | omega) _) | (refine Below.setCell ?_ (by first | exact Nat.le_refl _ | (simp; done) | (simp; omega) | omega) _) | (refine Below.trans ?_ (Below.mono (by assumption) (by first | exact Nat.le_refl _ | (simp; done) | (simp; omega) | omega)))))
  have hs3 : W.heap.size ≤ w3.heap.size := hB3.size
  replace hO1 := hO1.below hb3
  replace hO2 := hO2.below hb3
  go_wp2_with fail
  refine (markBoolSS_any _ _ _ _ _ (1) (nested a0 a1 a2) _ hO2 (by omega) (by omega) (by omega) (by omega)).mono ?_
  rintro e w4 ⟨rfl, hM, hg4⟩
  clear hO2
  have hO2 := hM
  clear hM
  have hz4 := hg4.size
  have hB4 : Below W.heap.size W w4 := below_only hB3 hg4 hs3 (by omega)
  have hs4 : W.heap.size ≤ w4.heap.size := hB4.size
  replace hO1 := hO1.only hg4 (by omega)
  go_wp2_with fail
  refine (heldBoolSS_any _ _ _ (1) ((nested a0 a1 a2).map List.length) _ hO2.rd (by omega) (by omega) (by omega) (by omega)).mono ?_
  rintro e w' ⟨he, rfl⟩
  replace he : e = .returned (.int .i64 (1 + (lens (nested a0 a1 a2) : Int))) := he
  subst he
  go_wp2_with fail
  refine (nestedI_any a0 a1 a2 _).mono ?_
  rintro e w5 ⟨A_5, c_5, rfl, hk_5, hO5, hb5⟩
  obtain ⟨hc5, hf5⟩ := bcell hb5
  have hz5 := hb5.size
  try simp at hz5
  have hB5 : Below W.heap.size W w5 := by (repeat (first | exact Below.refl _ _ | assumption | (refine Below.drew ?_) | (refine below_drewN ?_ _) | (refine Below.alloc ?_ (by first | exact Nat.le_refl _ | (simp; done) | (simp; omega) | omega) _) | (refine Below.setCell ?_ (by first | exact Nat.le_refl _ | (simp; done) | (simp; omega) | omega) _) | (refine Below.trans ?_ (Below.mono (by assumption) (by first | exact Nat.le_refl _ | (simp; done) | (simp; omega) | omega)))))
  have hs5 : W.heap.size ≤ w5.heap.size := hB5.size
  replace hO1 := hO1.below hb5
  replace hO2 := hO2.below hb5
  go_wp2_with fail
  refine (eqBoolSS_any _ _ (nested a0 a1 a2).length _ _ (nested a0 a1 a2) _ hO5.rd hO1.rd (by omega) (hrrR)).mono ?_
  rintro e w6 ⟨rfl, hb6⟩
  obtain ⟨hc6, hf6⟩ := bcell hb6
  have hz6 := hb6.size
  try simp at hz6
  have hB6 : Below W.heap.size W w6 := by (repeat (first | exact Below.refl _ _ | assumption | (refine Below.drew ?_) | (refine below_drewN ?_ _) | (refine Below.alloc ?_ (by first | exact Nat.le_refl _ | (simp; done) | (simp; omega) | omega) _) | (refine Below.setCell ?_ (by first | exact Nat.le_refl _ | (simp; done) | (simp; omega) | omega) _) | (refine Below.trans ?_ (Below.mono (by assumption) (by first | exact Nat.le_refl _ | (simp; done) | (simp; omega) | omega)))))
  have hs6 : W.heap.size ≤ w6.heap.size := hB6.size
  replace hO1 := hO1.below hb6
  replace hO2 := hO2.below hb6
  replace hO5 := hO5.below hb6
  go_wp2_with fail
  refine (heldBoolSS_any _ _ _ (1) ((nested a0 a1 a2).map List.length) _ hO2.rd (by omega) (by omega) (by omega) (by omega)).mono ?_
  rintro e w' ⟨he, rfl⟩
  replace he : e = .returned (.int .i64 (1 + (lens (nested a0 a1 a2) : Int))) := he
  subst he
  go_wp2_with fail
  go_ret
  exact ⟨rfl, by (repeat (first | exact Below.refl _ _ | assumption | (refine Below.drew ?_) | (refine below_drewN ?_ _) | (refine Below.alloc ?_ (by first | exact Nat.le_refl _ | (simp; done) | (simp; omega) | omega) _) | (refine Below.setCell ?_ (by first | exact Nat.le_refl _ | (simp; done) | (simp; omega) | omega) _) | (refine Below.trans ?_ (Below.mono (by assumption) (by first | exact Nat.le_refl _ | (simp; done) | (simp; omega) | omega)))))⟩

end Go.Proofs.Ytjgjdchnjiaclaa
