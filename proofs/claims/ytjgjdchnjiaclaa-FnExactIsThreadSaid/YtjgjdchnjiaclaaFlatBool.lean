/-
  Lists of Bool: how the law file copies, compares, marks and asks them.
-/
import Derived.Test.YtjgjdchnjiaclaaRows
import Derived.Test.YtjgjdchnjiaclaaPlainT
import Derived.Test.YtjgjdchnjiaclaaPlainA
import Derived.Test.YtjgjdchnjiaclaaBase
set_option linter.unusedVariables false
namespace Go.Proofs.Ytjgjdchnjiaclaa
open Go.RowKit

theorem Rd.bool {w w' : World} {A : Option Addr} {n : Nat} {xs : List Bool} (h : Rd w A n 1 xs boolC) {k : Nat} (hk : k < n) (hb : Below w.heap.size w w') :
    ∃ b off x, A = some ⟨b, off, none⟩ ∧ b < w.heap.size ∧ xs[k]? = some x ∧ w'.cell? ⟨b, off + k, none⟩ = some (.bool x) := by
  obtain ⟨b, off, x, e, hlt, hx, hc⟩ := h.at_ hk
  have hw : ∀ j u, (boolC x)[j]? = some u → w'.cell? ⟨b, off + (k * 1 + j), none⟩ = some u := fun j u hu => (hb.cell (p := ⟨b, _, none⟩) hlt).trans (hc j u hu)
  exact ⟨b, off, x, e, hlt, hx, by simpa using hw 0 _ rfl⟩

theorem boolC_len (x : Bool) : (boolC x).length = 1 := rfl

theorem szBoolS_any (A : Option Addr) (n c : Nat) (l : Int) (w : World) (hl : -1 ≤ l) (hl2 : l ≤ 1048576) (hn : n ≤ 9223372036854775807) : Calls Try.prog 48 #[.slice A n c, .int .i64 l] w fun e w' => e = .returned (.int .i64 (szLeft l n)) ∧ w = w' := by
  by_cases hd : l - (n : Int) < 0
  · go_enter Try.func48, Try.ntmps48
    go_wp2
    go_ret
    exact ⟨ret_i (by unfold szLeft; rw [if_pos (by omega)]), rfl⟩
  · go_enter Try.func48, Try.ntmps48
    go_wp2
    go_ret
    exact ⟨ret_i (by unfold szLeft; rw [if_neg (by omega)]), rfl⟩

theorem toBoolS_any (A : Option Addr) (n c : Nat) (xs : List Bool) (W : World) (h : Rd W A n 1 xs boolC) (hn : n ≤ 1048576) :
    Calls Try.prog 50 #[.slice A n c] W (Made W n 1 xs boolC) := by
  have hlen := Lib.hid h.len
  have hmk := mk_eq (P := Try.prog) 37 4 (.bool false) 1 1 Try.underlying37 (by kernel_rfl) n (by omega) (by omega)
  go_enter Try.func50, Try.ntmps50
  go_wp2
  clear hmk
  have hP0 := Part.made W (Value.cells (.bool false)) 4 n 1 xs boolC
  rw [Nat.mul_one] at hP0
  obtain ⟨g, hg⟩ : ∃ g, Hid (g = W.heap.size) := ⟨_, rfl⟩
  rw [← hg.out] at hP0
  rw [show (Addr.mk W.heap.size 0 none) = Addr.mk g 0 none from by rw [hg.out]]
  go_loopw [4] (fun i wr => ∃ k : Nat, k ≤ n ∧ i = .int .i64 k ∧ Below W.heap.size W wr ∧ Part wr g 4 n 1 xs boolC k) (fun i _ => n - (intOf i).toNat)
  case atStart => exact ⟨0, Nat.zero_le _, rfl, by (repeat (first | exact Below.refl _ _ | assumption | (refine Below.drew ?_) | (refine below_drewN ?_ _) | (refine Below.alloc ?_ (by first | exact Nat.le_refl _ | (simp; done) | (simp; omega) | omega) _) | (refine Below.setCell ?_ (by first | exact Nat.le_refl _ | (simp; done) | (simp; omega) | omega) _) | (refine Below.trans ?_ (Below.mono (by assumption) (by first | exact Nat.le_refl _ | (simp; done) | (simp; omega) | omega))))), hP0⟩
  case round =>
    obtain ⟨k, hk, rfl, hB, hP⟩ := hrel
    have hz := hB.size
    have hglt := hP.lt
    by_cases hlt : k < n
    · obtain ⟨b, off, x, rfl, hbW, hx, h0⟩ := h.bool hlt hB
      have hX := Lib.hid hx
      clear hx
      obtain ⟨v0, hv0⟩ := hP.cell (o := k) (by omega)
      have hp0 : wr.frozen? ⟨g, k, none⟩ = false := hP.frozen _
      go_wp2_with (fail)
      go_roundw
      case rel => 
        have hst := hP.store (k := k) hX.out boolC_len hlt
        have hbe := below_setRow hB (g := g) (Nat.le_of_eq hg.out.symm) (k * 1) (boolC x)
        simp only [boolC, setRow, Nat.mul_one] at hst hbe
        exact ⟨k + 1, by omega, by go_num, hbe, hst⟩
      case measure => simp [intOf]; omega
    · go_wp2
      go_ret
      obtain rfl : k = n := by omega
      exact ⟨some ⟨g, 0, none⟩, k, rfl, Nat.le_refl _, ⟨hlen.out, fun _ => ⟨g, _, rfl, Nat.le_of_eq hg.out.symm, hP.lt, hP⟩⟩, by (repeat (first | exact Below.refl _ _ | assumption | (refine Below.drew ?_) | (refine below_drewN ?_ _) | (refine Below.alloc ?_ (by first | exact Nat.le_refl _ | (simp; done) | (simp; omega) | omega) _) | (refine Below.setCell ?_ (by first | exact Nat.le_refl _ | (simp; done) | (simp; omega) | omega) _) | (refine Below.trans ?_ (Below.mono (by assumption) (by first | exact Nat.le_refl _ | (simp; done) | (simp; omega) | omega)))))⟩

theorem eqBoolS_any (A B : Option Addr) (n c d : Nat) (xs : List Bool) (W : World) (h : Rd W A n 1 xs boolC) (h' : Rd W B n 1 xs boolC) (hn : n ≤ 1048576) :
    Calls Try.prog 52 #[.slice A n c, .slice B n d] W fun e w' => e = .returned (.bool true) ∧ Below W.heap.size W w' := by
  go_enter Try.func52, Try.ntmps52
  go_wp2
  go_loopw [5] (fun i wr => ∃ k : Nat, k ≤ n ∧ i = .int .i64 k ∧ Below W.heap.size W wr) (fun i _ => n - (intOf i).toNat)
  case atStart => exact ⟨0, Nat.zero_le _, rfl, Below.refl _ _⟩
  case round =>
    obtain ⟨k, hk, rfl, hB⟩ := hrel
    have hz := hB.size
    by_cases hlt : k < n
    · obtain ⟨b, off, x, rfl, hbW, hx, h0⟩ := h.bool hlt hB
      obtain ⟨b', off', x', rfl, hbW', hx', g0⟩ := h'.bool hlt hB
      obtain rfl : x = x' := by rw [hx] at hx'; injection hx'
      clear hx hx' h h'
      go_wp2
      go_quiet (fail)
      go_wp2
      go_roundw
      case rel => exact ⟨k + 1, by omega, by go_num, by (repeat (first | exact Below.refl _ _ | assumption | (refine Below.drew ?_) | (refine below_drewN ?_ _) | (refine Below.alloc ?_ (by first | exact Nat.le_refl _ | (simp; done) | (simp; omega) | omega) _) | (refine Below.setCell ?_ (by first | exact Nat.le_refl _ | (simp; done) | (simp; omega) | omega) _) | (refine Below.trans ?_ (Below.mono (by assumption) (by first | exact Nat.le_refl _ | (simp; done) | (simp; omega) | omega)))))⟩
      case measure => simp [intOf]; omega
    · go_wp2
      go_ret
      exact ⟨rfl, by (repeat (first | exact Below.refl _ _ | assumption | (refine Below.drew ?_) | (refine below_drewN ?_ _) | (refine Below.alloc ?_ (by first | exact Nat.le_refl _ | (simp; done) | (simp; omega) | omega) _) | (refine Below.setCell ?_ (by first | exact Nat.le_refl _ | (simp; done) | (simp; omega) | omega) _) | (refine Below.trans ?_ (Below.mono (by assumption) (by first | exact Nat.le_refl _ | (simp; done) | (simp; omega) | omega)))))⟩

def markBoolSAt (k : Int) (i : Nat) : Bool := ((k + (i : Int)) % 3 == 0)
def marksBoolS (k : Int) (n : Nat) : List Bool := (List.range n).map (markBoolSAt k)
theorem marksBoolS_len (k : Int) (n : Nat) : (marksBoolS k n).length = n := by simp [marksBoolS]
theorem marksBoolS_at {k : Int} {n i : Nat} (h : i < n) : (marksBoolS k n)[i]? = some (markBoolSAt k i) := by simp [marksBoolS, h]

theorem markBoolS_any (A : Option Addr) (n c lo hi : Nat) (q : Int) (xs : List Bool) (W : World) (h : Own W lo hi A n 1 xs boolC) (hn : n ≤ 4194304) (hq : 0 ≤ q) (hq2 : q ≤ 1000000000) :
    Calls Try.prog 53 #[.slice A n c, .int .i64 q] W fun e w' => e = .returned (.int .i64 (q + (n : Int))) ∧ Own w' lo hi A n 1 (marksBoolS q n) boolC ∧ Only lo hi W w' := by
  by_cases hn0 : n = 0
  · subst hn0
    go_enter Try.func53, Try.ntmps53
    go_wp2
    go_loop [1, 5] (fun s i => s = .int .i64 q ∧ i = .int .i64 0) (fun _ i => (intOf i).toNat)
    case atStart => exact ⟨rfl, rfl⟩
    case round =>
      obtain ⟨rfl, rfl⟩ := hrel
      go_wp2
      go_ret
      exact ⟨ret_i (by omega), ⟨rfl, fun hh => absurd hh (by omega)⟩, Only.refl _ _ _⟩
  · obtain ⟨g, T, rfl, hlo, hhi, hP0⟩ := h.2 (by omega)
    have hP1 := hP0.zero (marksBoolS q n) boolC
    clear hP0 h
    go_enter Try.func53, Try.ntmps53
    go_wp2
    go_loopw [1, 5] (fun s i wr => ∃ k : Nat, k ≤ n ∧ i = .int .i64 k ∧ s = .int .i64 (q + (k : Int)) ∧ W.grownBy wr (some g) ∧ Part wr g T n 1 (marksBoolS q n) boolC k) (fun _ i _ => n - (intOf i).toNat)
    case atStart => exact ⟨0, Nat.zero_le _, rfl, by simp, World.grownBy.refl _ _, hP1⟩
    case round =>
      obtain ⟨k, hk, rfl, rfl, hB, hP⟩ := hrel
      by_cases hlt : k < n
      · have hglt := hP.lt
        obtain ⟨v0, hv0⟩ := hP.cell (o := k) (by omega)
        have hp0 : wr.frozen? ⟨g, k, none⟩ = false := hP.frozen _
        go_wp2
        go_roundw
        case rel =>
          have hst := hP.store (marksBoolS_at hlt) boolC_len hlt
          have hon := only_setRow hB (k * 1) (boolC (markBoolSAt q k))
          simp only [boolC, markBoolSAt, setRow, Nat.mul_one] at hst hon
          refine ⟨k + 1, by omega, by go_num, num_eq (by omega), ?_, ?_⟩
          · exact hon
          · exact hst
        case measure => simp [intOf]; omega
      · go_wp2
        go_ret
        obtain rfl : k = n := by omega
        exact ⟨rfl, ⟨marksBoolS_len _ _, fun _ => ⟨g, T, rfl, hlo, hhi, hP⟩⟩, Only.of_row hB hlo hhi⟩

theorem heldBoolS_any (A : Option Addr) (n c : Nat) (q : Int) (W : World) (h : Rd W A n 1 (marksBoolS q n) boolC) (hn : n ≤ 4194304) (hq : 0 ≤ q) (hq2 : q ≤ 1000000000) :
    Calls Try.prog 54 #[.slice A n c, .int .i64 q] W fun e w' => e = .returned (.int .i64 (q + (n : Int))) ∧ W = w' := by
  go_enter Try.func54, Try.ntmps54
  go_wp2
  go_loop [1, 5] (fun s i => ∃ k : Nat, k ≤ n ∧ i = .int .i64 k ∧ s = .int .i64 (q + (k : Int))) (fun _ i => n - (intOf i).toNat)
  case atStart => exact ⟨0, Nat.zero_le _, rfl, by simp⟩
  case round =>
    obtain ⟨k, hk, rfl, rfl⟩ := hrel
    by_cases hlt : k < n
    · obtain ⟨b, off, x, rfl, hbW, hx, h0⟩ := h.bool hlt (Below.refl _ _)
      rw [marksBoolS_at hlt] at hx
      injection hx with hx
      subst hx
      simp only [markBoolSAt] at h0
      go_wp2
      go_round
      case rel => exact ⟨k + 1, by omega, by go_num, num_eq (by omega)⟩
      case measure => simp [intOf]; omega
    · go_wp2
      go_ret
      obtain rfl : k = n := by omega
      exact ⟨rfl, rfl⟩

end Go.Proofs.Ytjgjdchnjiaclaa
