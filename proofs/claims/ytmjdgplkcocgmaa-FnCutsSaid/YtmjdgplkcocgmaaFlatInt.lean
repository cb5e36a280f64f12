/-
  Lists of Int: how the law file copies, compares, marks and asks them.
-/
import Derived.Test.YtmjdgplkcocgmaaRows
import Derived.Test.YtmjdgplkcocgmaaPlainT
import Derived.Test.YtmjdgplkcocgmaaPlainA
import Derived.Test.YtmjdgplkcocgmaaBase
set_option linter.unusedVariables false
namespace Go.Proofs.Ytmjdgplkcocgmaa
open Go.RowKit

theorem Rd.int {w w' : World} {A : Option Addr} {n : Nat} {xs : List Int} (h : Rd w A n 1 xs intC) {k : Nat} (hk : k < n) (hb : Below w.heap.size w w') :
    ∃ b off x, A = some ⟨b, off, none⟩ ∧ b < w.heap.size ∧ xs[k]? = some x ∧ w'.cell? ⟨b, off + k, none⟩ = some (.int .i64 x) := by
  obtain ⟨b, off, x, e, hlt, hx, hc⟩ := h.at_ hk
  have hw : ∀ j u, (intC x)[j]? = some u → w'.cell? ⟨b, off + (k * 1 + j), none⟩ = some u := fun j u hu => (hb.cell (p := ⟨b, _, none⟩) hlt).trans (hc j u hu)
  exact ⟨b, off, x, e, hlt, hx, by simpa using hw 0 _ rfl⟩

theorem intC_len (x : Int) : (intC x).length = 1 := rfl

theorem eqIntS_any (A B : Option Addr) (n c d : Nat) (xs : List Int) (W : World) (h : Rd W A n 1 xs intC) (h' : Rd W B n 1 xs intC) (hn : n ≤ 1048576) :
    Calls Try.prog 75 #[.slice A n c, .slice B n d] W fun e w' => e = .returned (.bool true) ∧ Below W.heap.size W w' := by
  go_enter Try.func75, Try.ntmps75
  go_wp2
  go_loopw [5] (fun i wr => ∃ k : Nat, k ≤ n ∧ i = .int .i64 k ∧ Below W.heap.size W wr) (fun i _ => n - (intOf i).toNat)
  case atStart => exact ⟨0, Nat.zero_le _, rfl, Below.refl _ _⟩
  case round =>
    obtain ⟨k, hk, rfl, hB⟩ := hrel
    have hz := hB.size
    by_cases hlt : k < n
    · obtain ⟨b, off, x, rfl, hbW, hx, h0⟩ := h.int hlt hB
      obtain ⟨b', off', x', rfl, hbW', hx', g0⟩ := h'.int hlt hB
      obtain rfl : x = x' := by rw [hx] at hx'; injection hx'
      clear hx hx' h h'
      go_wp2
      go_quiet (fail)
      go_wp2
      go_roundw
      case rel => exact ⟨k + 1, by omega, by go_num, by (repeat (first | exact Below.refl _ _ | assumption | (refine Below.drew ?_) | (refine below_drewN ?_ _) | (refine Below.alloc ?_ (by first | exact Nat.le_refl _ | (simp; done) | (simp; omega) | omega) _) | (refine Below.setCell ?_ (by first | exact Nat.le_refl _ | (simp; done) | (simp; omega) | omega) _) | (refine Below.trans ?_ (Below.mono (by assumption) (by first | exact Nat.le_refl _ | (simp; done) | (simp; omega) | omega)))))⟩
      case measure => simp [intOf]; omega
    · go_wp2
      go_ret
      exact ⟨rfl, by (repeat (first | exact Below.refl _ _ | assumption | (refine Below.drew ?_) | (refine below_drewN ?_ _) | (refine Below.alloc ?_ (by first | exact Nat.le_refl _ | (simp; done) | (simp; omega) | omega) _) | (refine Below.setCell ?_ (by first | exact Nat.le_refl _ | (simp; done) | (simp; omega) | omega) _) | (refine Below.trans ?_ (Below.mono (by assumption) (by first | exact Nat.le_refl _ | (simp; done) | (simp; omega) | omega)))))⟩

def markIntSAt (k : Int) (i : Nat) : Int := k + (i : Int)
def marksIntS (k : Int) (n : Nat) : List Int := (List.range n).map (markIntSAt k)
theorem marksIntS_len (k : Int) (n : Nat) : (marksIntS k n).length = n := by simp [marksIntS]
theorem marksIntS_at {k : Int} {n i : Nat} (h : i < n) : (marksIntS k n)[i]? = some (markIntSAt k i) := by simp [marksIntS, h]

theorem markIntS_any (A : Option Addr) (n c lo hi : Nat) (q : Int) (xs : List Int) (W : World) (h : Own W lo hi A n 1 xs intC) (hn : n ≤ 4194304) (hq : 0 ≤ q) (hq2 : q ≤ 1000000000) :
    Calls Try.prog 78 #[.slice A n c, .int .i64 q] W fun e w' => e = .returned (.int .i64 (q + (n : Int))) ∧ Own w' lo hi A n 1 (marksIntS q n) intC ∧ Only lo hi W w' := by
  by_cases hn0 : n = 0
  · subst hn0
    go_enter Try.func78, Try.ntmps78
    go_wp2
    go_loop [1, 5] (fun s i => s = .int .i64 q ∧ i = .int .i64 0) (fun _ i => (intOf i).toNat)
    case atStart => exact ⟨rfl, rfl⟩
    case round =>
      obtain ⟨rfl, rfl⟩ := hrel
      go_wp2
      go_ret
      exact ⟨ret_i (by omega), ⟨rfl, fun hh => absurd hh (by omega)⟩, Only.refl _ _ _⟩
  · obtain ⟨g, T, rfl, hlo, hhi, hP0⟩ := h.2 (by omega)
    have hP1 := hP0.zero (marksIntS q n) intC
    clear hP0 h
    go_enter Try.func78, Try.ntmps78
    go_wp2
    go_loopw [1, 5] (fun s i wr => ∃ k : Nat, k ≤ n ∧ i = .int .i64 k ∧ s = .int .i64 (q + (k : Int)) ∧ W.grownBy wr (some g) ∧ Part wr g T n 1 (marksIntS q n) intC k) (fun _ i _ => n - (intOf i).toNat)
    case atStart => exact ⟨0, Nat.zero_le _, rfl, by simp, World.grownBy.refl _ _, hP1⟩
    case round =>
      obtain ⟨k, hk, rfl, rfl, hB, hP⟩ := hrel
      by_cases hlt : k < n
      · have hglt := hP.lt
        obtain ⟨v0, hv0⟩ := hP.cell (o := k) (by omega)
        have hp0 : wr.frozen? ⟨g, k, none⟩ = false := hP.frozen _
        go_wp2
        go_roundw
        case rel =>
          have hst := hP.store (marksIntS_at hlt) intC_len hlt
          have hon := only_setRow hB (k * 1) (intC (markIntSAt q k))
          simp only [intC, markIntSAt, setRow, Nat.mul_one] at hst hon
          refine ⟨k + 1, by omega, by go_num, num_eq (by omega), ?_, ?_⟩
          · exact hon
          · exact hst
        case measure => simp [intOf]; omega
      · go_wp2
        go_ret
        obtain rfl : k = n := by omega
        exact ⟨rfl, ⟨marksIntS_len _ _, fun _ => ⟨g, T, rfl, hlo, hhi, hP⟩⟩, Only.of_row hB hlo hhi⟩

theorem heldIntS_any (A : Option Addr) (n c : Nat) (q : Int) (W : World) (h : Rd W A n 1 (marksIntS q n) intC) (hn : n ≤ 4194304) (hq : 0 ≤ q) (hq2 : q ≤ 1000000000) :
    Calls Try.prog 79 #[.slice A n c, .int .i64 q] W fun e w' => e = .returned (.int .i64 (q + (n : Int))) ∧ W = w' := by
  go_enter Try.func79, Try.ntmps79
  go_wp2
  go_loop [1, 5] (fun s i => ∃ k : Nat, k ≤ n ∧ i = .int .i64 k ∧ s = .int .i64 (q + (k : Int))) (fun _ i => n - (intOf i).toNat)
  case atStart => exact ⟨0, Nat.zero_le _, rfl, by simp⟩
  case round =>
    obtain ⟨k, hk, rfl, rfl⟩ := hrel
    by_cases hlt : k < n
    · obtain ⟨b, off, x, rfl, hbW, hx, h0⟩ := h.int hlt (Below.refl _ _)
      rw [marksIntS_at hlt] at hx
      injection hx with hx
      subst hx
      simp only [markIntSAt] at h0
      go_wp2
      go_round
      case rel => exact ⟨k + 1, by omega, by go_num, num_eq (by omega)⟩
      case measure => simp [intOf]; omega
    · go_wp2
      go_ret
      obtain rfl : k = n := by omega
      exact ⟨rfl, rfl⟩

end Go.Proofs.Ytmjdgplkcocgmaa
