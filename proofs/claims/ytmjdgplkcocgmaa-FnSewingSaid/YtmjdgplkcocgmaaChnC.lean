/-
  Contracts over joins: the greatest number of joins of a round.
-/
import Derived.Test.YtmjdgplkcocgmaaChnB
set_option linter.unusedVariables false
namespace Go.Proofs.Ytmjdgplkcocgmaa
open Go.RowKit

def mostChained (l : List Join) (n : Int) : Int := mostUp (chainRounds l n)
theorem mostUp_bd {rs : List (List Int)} (h : ∀ r ∈ rs, r.length ≤ 11) : 0 ≤ mostUp rs ∧ mostUp rs ≤ 11 := by
  have key : ∀ k, k ≤ rs.length → 0 ≤ mostUp (rs.take k) ∧ mostUp (rs.take k) ≤ 11 := by
    intro k
    induction k with
    | zero => intro _; exact ⟨Int.le_refl _, (by show (0 : Int) ≤ 11; decide)⟩
    | succ k ih =>
      intro hk
      have hr : rs[k]? = some (rs[k]'(by omega)) := List.getElem?_eq_getElem _
      have := h _ (List.mem_of_getElem? hr)
      have := ih (by omega)
      rw [mostUp_succ hr]
      omega
  have := key rs.length (Nat.le_refl _)
  rwa [List.take_length] at this

theorem lens_le {α : Type} {m : Nat} : ∀ {rows : List (List α)}, (∀ r ∈ rows, r.length ≤ m) → lens rows ≤ m * rows.length := by
  intro rows
  induction rows with
  | nil => intro _; simp [lens]
  | cons r rows ih =>
    intro h
    have h5 := ih fun r' hr' => h r' (List.mem_cons_of_mem _ hr')
    have h6 := h r (List.mem_cons_self ..)
    simp only [lens, List.map_cons, List.sum_cons, List.length_cons, Nat.mul_add, Nat.mul_one] at h5 ⊢
    omega
theorem mostI_any (A : Option Addr) (n c : Nat) (xs : List Join) (m : Int) (W : World) (h : Rd W A n 3 xs joinC) (hn : n ≤ 1048576) :
    Calls Try.prog 68 #[.slice A n c, .int .i64 m] W fun e w' => e = .returned (.int .i64 (mostChained xs m)) ∧ Below W.heap.size W w' := by
  have hsm := chain_small xs m
  obtain ⟨rs, hrs⟩ : ∃ rs, Hid (rs = chainRounds xs m) := ⟨_, rfl⟩
  have hC := chainI_any A n c xs m
  rw [← hrs.out] at hsm hC
  have HC := Lib.hid hC
  have HF := Lib.hid (show mostUp rs = mostChained xs m by unfold mostChained; rw [hrs.out])
  clear hC
  go_enter Try.func68, Try.ntmps68
  go_wp2_with (go_at_call 65; refine (HC.out _ h hn).mono ?_; rintro e w1 ⟨A1, c1, rfl, hk1, hO1, hb1⟩)
  have hR1 := hO1.rd
  clear hO1 hk1
  go_loop [5, 12] (fun o i => ∃ k : Nat, k ≤ rs.length ∧ i = .int .i64 (k : Int) ∧ o = .int .i64 (mostUp (rs.take k))) (fun _ i => rs.length - (intOf i).toNat)
  case atStart => exact ⟨0, Nat.zero_le _, rfl, rfl⟩
  case round =>
    obtain ⟨k, hk, rfl, rfl⟩ := hrel
    by_cases hlt : k < rs.length
    · obtain ⟨b, off, A', n', c', r, rfl, hbW, hr, g0, hnc, hrn, hrR⟩ := hR1.at_ hlt (Below.refl _ _)
      have hrl := hsm.2 r (List.mem_of_getElem? hr)
      have hbd := mostUp_bd (rs := rs.take k) fun r hr => hsm.2 r (List.mem_of_mem_take hr)
      have HS := Lib.hid (mostUp_succ hr)
      subst hrn
      have hlen := hsm.1
      clear hrR hr
      generalize mostUp (rs.take k) = mu at hbd HS
      obtain ⟨mx, hmx⟩ : ∃ mx, (if mu < (r.length : Int) then (r.length : Int) else mu) = mx := ⟨_, rfl⟩
      have HM := Lib.hid (show mx = mostUp (rs.take (k + 1)) by rw [HS.out, ← hmx]; split <;> omega)
      go_wp2
      go_round
      case rel => exact ⟨k + 1, by omega, by go_num, by rw [HM.out]⟩
      case measure => simp [intOf]; omega
    · obtain rfl : k = rs.length := by omega
      go_wp2
      go_ret
      exact ⟨ret_i (by first | exact HF.out | (rw [List.take_length]; exact HF.out)), hb1⟩

end Go.Proofs.Ytmjdgplkcocgmaa
