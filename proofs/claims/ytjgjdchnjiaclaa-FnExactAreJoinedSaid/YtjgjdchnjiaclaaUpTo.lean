/-
  The numbers from 0 on, as a new slice.
-/
import Derived.Test.YtjgjdchnjiaclaaPlainW
import Derived.Test.YtjgjdchnjiaclaaAccInt
import Derived.Test.YtjgjdchnjiaclaaFlatInt
set_option linter.unusedVariables false
namespace Go.Proofs.Ytjgjdchnjiaclaa
open Go.RowKit

theorem upTo_any (m : Nat) (W : World) (hm : m ≤ 1048576) : Calls Try.prog 70 #[.int .i64 m] W (Made W m 1 (ups m) intC) := by
  have hacc0 := Acc.lit0 W W.heap.size 3 1 intC (Nat.le_refl _) rfl
  go_enter Try.func70, Try.ntmps70
  go_wp2
  go_loopw [3, 7] (fun o i wr => ∃ k : Nat, k ≤ m ∧ i = .int .i64 (k : Int) ∧ Acc wr W.heap.size 3 1 o (ups k) intC ∧ Below W.heap.size W wr) (fun _ i _ => m - (intOf i).toNat)
  case atStart => exact ⟨0, Nat.zero_le _, rfl, hacc0, by (repeat (first | exact Below.refl _ _ | assumption | (refine Below.drew ?_) | (refine below_drewN ?_ _) | (refine Below.alloc ?_ (by first | exact Nat.le_refl _ | (simp; done) | (simp; omega) | omega) _) | (refine Below.setCell ?_ (by first | exact Nat.le_refl _ | (simp; done) | (simp; omega) | omega) _) | (refine Below.trans ?_ (Below.mono (by assumption) (by first | exact Nat.le_refl _ | (simp; done) | (simp; omega) | omega)))))⟩
  case round =>
    obtain ⟨k, hk, rfl, hacc, hB⟩ := hrel
    have hz := hB.size
    have hl := ups_len k
    by_cases hlt : k < m
    · go_wp2_with (at_builtin; refine wpList_acc1 rfl _ _ 46 rfl W.heap.size 3 (.int .i64 0) 1 8 Try.underlying46 infoIntA rfl (by omega) _ _ intC (k : Int) rfl hacc _ _ rfl _ rfl (by simp) rfl (by simp [intC, Value.oneCell']) (by omega) (by omega) (by omega) ?_; intro v' w5 hacc5 hgrow5 hat5)
      go_roundw
      case rel => exact ⟨k + 1, by omega, by go_num, by rw [ups_succ]; exact hacc5, hacc.grow_below hB hgrow5 (Nat.le_refl _) hz⟩
      case measure => simp [intOf]; omega
    · go_wp2
      go_ret
      obtain rfl : k = m := by omega
      exact hacc.made intC_len (W := W) (Nat.le_refl _) hB hl

end Go.Proofs.Ytjgjdchnjiaclaa
