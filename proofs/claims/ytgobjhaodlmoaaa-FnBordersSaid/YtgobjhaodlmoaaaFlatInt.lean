/-
  Lists of Int: how the law file copies, compares, marks and asks them.
-/
import Derived.Test.YtgobjhaodlmoaaaRows
import Derived.Test.YtgobjhaodlmoaaaPlainT
import Derived.Test.YtgobjhaodlmoaaaPlainA
import Derived.Test.YtgobjhaodlmoaaaBase
set_option linter.unusedVariables false
namespace Go.Proofs.Ytgobjhaodlmoaaa
open Go.RowKit

theorem Rd.int {w w' : World} {A : Option Addr} {n : Nat} {xs : List Int} (h : Rd w A n 1 xs intC) {k : Nat} (hk : k < n) (hb : Below w.heap.size w w') :
    ∃ b off x, A = some ⟨b, off, none⟩ ∧ b < w.heap.size ∧ xs[k]? = some x ∧ w'.cell? ⟨b, off + k, none⟩ = some (.int .i64 x) := by
  obtain ⟨b, off, x, e, hlt, hx, hc⟩ := h.at_ hk
  have hw : ∀ j u, (intC x)[j]? = some u → w'.cell? ⟨b, off + (k * 1 + j), none⟩ = some u := fun j u hu => (hb.cell (p := ⟨b, _, none⟩) hlt).trans (hc j u hu)
  exact ⟨b, off, x, e, hlt, hx, by simpa using hw 0 _ rfl⟩

theorem intC_len (x : Int) : (intC x).length = 1 := rfl

theorem toIntS_any (A : Option Addr) (n c : Nat) (xs : List Int) (W : World) (h : Rd W A n 1 xs intC) (hn : n ≤ 1048576) :
    Calls Try.prog 45 #[.slice A n c] W (Made W n 1 xs intC) := by
  have hlen := Lib.hid h.len
  have hmk := mk_eq (P := Try.prog) 56 3 (.int .i64 0) 1 8 Try.underlying56 (by kernel_rfl) n (by omega) (by omega)
  go_enter Try.func45, Try.ntmps45
  go_wp2
  clear hmk
  have hP0 := Part.made W (Value.cells (.int .i64 0)) 3 n 1 xs intC
  rw [Nat.mul_one] at hP0
  obtain ⟨g, hg⟩ : ∃ g, Hid (g = W.heap.size) := ⟨_, rfl⟩
  rw [← hg.out] at hP0
  rw [show (Addr.mk W.heap.size 0 none) = Addr.mk g 0 none from by rw [hg.out]]
  go_loopw [4] (fun i wr => ∃ k : Nat, k ≤ n ∧ i = .int .i64 k ∧ Below W.heap.size W wr ∧ Part wr g 3 n 1 xs intC k) (fun i _ => n - (intOf i).toNat)
  case atStart => exact ⟨0, Nat.zero_le _, rfl, by (repeat (first | exact Below.refl _ _ | assumption | (refine Below.drew ?_) | (refine below_drewN ?_ _) | (refine Below.alloc ?_ (by first | exact Nat.le_refl _ | (simp; done) | (simp; omega) | omega) _) | (refine Below.setCell ?_ (by first | exact Nat.le_refl _ | (simp; done) | (simp; omega) | omega) _) | (refine Below.trans ?_ (Below.mono (by assumption) (by first | exact Nat.le_refl _ | (simp; done) | (simp; omega) | omega))))), hP0⟩
  case round =>
    obtain ⟨k, hk, rfl, hB, hP⟩ := hrel
    have hz := hB.size
    have hglt := hP.lt
    by_cases hlt : k < n
    · obtain ⟨b, off, x, rfl, hbW, hx, h0⟩ := h.int hlt hB
      have hX := Lib.hid hx
      clear hx
      obtain ⟨v0, hv0⟩ := hP.cell (o := k) (by omega)
      have hp0 : wr.frozen? ⟨g, k, none⟩ = false := hP.frozen _
      go_wp2_with (fail)
      go_roundw
      case rel => 
        have hst := hP.store (k := k) hX.out intC_len hlt
        have hbe := below_setRow hB (g := g) (Nat.le_of_eq hg.out.symm) (k * 1) (intC x)
        simp only [intC, setRow, Nat.mul_one] at hst hbe
        exact ⟨k + 1, by omega, by go_num, hbe, hst⟩
      case measure => simp [intOf]; omega
    · go_wp2
      go_ret
      obtain rfl : k = n := by omega
      exact ⟨some ⟨g, 0, none⟩, k, rfl, Nat.le_refl _, ⟨hlen.out, fun _ => ⟨g, _, rfl, Nat.le_of_eq hg.out.symm, hP.lt, hP⟩⟩, by (repeat (first | exact Below.refl _ _ | assumption | (refine Below.drew ?_) | (refine below_drewN ?_ _) | (refine Below.alloc ?_ (by first | exact Nat.le_refl _ | (simp; done) | (simp; omega) | omega) _) | (refine Below.setCell ?_ (by first | exact Nat.le_refl _ | (simp; done) | (simp; omega) | omega) _) | (refine Below.trans ?_ (Below.mono (by assumption) (by first | exact Nat.le_refl _ | (simp; done) | (simp; omega) | omega)))))⟩

theorem eqIntS_any (A B : Option Addr) (n c d : Nat) (xs : List Int) (W : World) (h : Rd W A n 1 xs intC) (h' : Rd W B n 1 xs intC) (hn : n ≤ 1048576) :
    Calls Try.prog 47 #[.slice A n c, .slice B n d] W fun e w' => e = .returned (.bool true) ∧ Below W.heap.size W w' := by
  go_enter Try.func47, Try.ntmps47
  go_wp2
  go_loopw [5] (fun i wr => ∃ k : Nat, k ≤ n ∧ i = .int .i64 k ∧ Below W.heap.size W wr) (fun i _ => n - (intOf i).toNat)
  case atStart => exact ⟨0, Nat.zero_le _, rfl, Below.refl _ _⟩
  case round =>
    obtain ⟨k, hk, rfl, hB⟩ := hrel
    have hz := hB.size
    by_cases hlt : k < n
    · obtain ⟨b, off, x, rfl, hbW, hx, h0⟩ := h.int hlt hB
      obtain ⟨b', off', x', rfl, hbW', hx', g0⟩ := h'.int hlt hB
      obtain rfl : x = x' := by rw [hx] at hx'; injection hx'
      clear hx hx' h h'
      go_wp2
      go_quiet (fail)
      go_wp2
      go_roundw
      case rel => exact ⟨k + 1, by omega, by go_num, by (repeat (first | exact Below.refl _ _ | assumption | (refine Below.drew ?_) | (refine below_drewN ?_ _) | (refine Below.alloc ?_ (by first | exact Nat.le_refl _ | (simp; done) | (simp; omega) | omega) _) | (refine Below.setCell ?_ (by first | exact Nat.le_refl _ | (simp; done) | (simp; omega) | omega) _) | (refine Below.trans ?_ (Below.mono (by assumption) (by first | exact Nat.le_refl _ | (simp; done) | (simp; omega) | omega)))))⟩
      case measure => simp [intOf]; omega
    · go_wp2
      go_ret
      exact ⟨rfl, by (repeat (first | exact Below.refl _ _ | assumption | (refine Below.drew ?_) | (refine below_drewN ?_ _) | (refine Below.alloc ?_ (by first | exact Nat.le_refl _ | (simp; done) | (simp; omega) | omega) _) | (refine Below.setCell ?_ (by first | exact Nat.le_refl _ | (simp; done) | (simp; omega) | omega) _) | (refine Below.trans ?_ (Below.mono (by assumption) (by first | exact Nat.le_refl _ | (simp; done) | (simp; omega) | omega)))))⟩

def markIntSAt (k : Int) (i : Nat) : Int := k + (i : Int)
def marksIntS (k : Int) (n : Nat) : List Int := (List.range n).map (markIntSAt k)
theorem marksIntS_len (k : Int) (n : Nat) : (marksIntS k n).length = n := by simp [marksIntS]
theorem marksIntS_at {k : Int} {n i : Nat} (h : i < n) : (marksIntS k n)[i]? = some (markIntSAt k i) := by simp [marksIntS, h]

end Go.Proofs.Ytgobjhaodlmoaaa
