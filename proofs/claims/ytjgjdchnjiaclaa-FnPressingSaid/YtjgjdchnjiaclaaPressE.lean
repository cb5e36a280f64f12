/-
  Contracts of pressing: rows are copied.
-/
import Derived.Test.YtjgjdchnjiaclaaPressA
import Derived.Test.YtjgjdchnjiaclaaAccMany
set_option linter.unusedVariables false
namespace Go.Proofs.Ytjgjdchnjiaclaa
open Go.RowKit

theorem l13Copy_any (A : Option Addr) (n c : Nat) (rows : List (List Bool)) (W : World) (h : RdSS W A n rows boolC) (hn : n ≤ 1048576) (hr : ∀ r ∈ rows, r.length ≤ 1048576) :
    Calls Try.prog 55 #[.slice A n c] W (MadeSS W n rows boolC) := by
  have HLEN := Lib.hid h.len
  go_enter Try.func55, Try.ntmps55
  go_wp2
  go_loopw [3, 4] (fun o i wr => ∃ (k : Nat) (hs : List Hd), k ≤ n ∧ i = .int .i64 (k : Int) ∧ Acc wr W.heap.size 37 1 o hs hdC ∧ RowsP wr W.heap.size wr.heap.size hs (rows.take k) boolC ∧ Apart o hs ∧ Below W.heap.size W wr ∧ W.heap.size ≤ wr.heap.size) (fun _ i _ => n - (intOf i).toNat)
  case atStart => exact ⟨0, [], Nat.zero_le _, rfl, Acc.lit0 W W.heap.size 37 1 hdC (Nat.le_refl _) rfl, RowsP.nil _ _ _ _, Apart.nil _, by (repeat (first | exact Below.refl _ _ | assumption | (refine Below.drew ?_) | (refine below_drewN ?_ _) | (refine Below.alloc ?_ (by first | exact Nat.le_refl _ | (simp; done) | (simp; omega) | omega) _) | (refine Below.setCell ?_ (by first | exact Nat.le_refl _ | (simp; done) | (simp; omega) | omega) _) | (refine Below.trans ?_ (Below.mono (by assumption) (by first | exact Nat.le_refl _ | (simp; done) | (simp; omega) | omega))))), by simp⟩
  case round =>
    obtain ⟨k, hs, hk, rfl, hacc, hrows, hap, hB, hz⟩ := hrel
    by_cases hlt : k < n
    · obtain ⟨b, off, A1, n1, c1, r, rfl, hbW, hr1, e1, hnc, hrl, hR⟩ := h.at_ hlt hB
      have hn1 : n1 ≤ 1048576 := by rw [← hrl]; exact hr r (List.mem_of_getElem? hr1)
      have hbr : b < wr.heap.size := by omega
      have HR := Lib.hid hr1
      have HRL := Lib.hid hrl
      clear hr1 hrl
      obtain ⟨mid, hmid⟩ : ∃ g, Hid (g = wr.heap.size) := ⟨_, rfl⟩
      have hacc0 := Acc.lit0 wr mid 4 1 boolC (Nat.le_of_eq hmid.out) rfl
      have hB0 : Below mid wr (wr.alloc (.cells #[] 4)) := (Below.refl _ _).alloc (Nat.le_of_eq hmid.out) _
      have hz0 : mid ≤ (wr.alloc (.cells #[] 4)).heap.size := by rw [hmid.out]; simp
      have hR0 : Rd (wr.alloc (.cells #[] 4)) A1 n1 1 r boolC := hR.below ((Below.refl _ _).alloc (Nat.le_refl _) _)
      have hl : hs.length = k := by rw [hrows.1, List.length_take]; have := HLEN.out; omega
      go_wp2_with (first | (at_builtin; refine wpList_accs rfl _ _ 37 rfl mid 4 Try.underlying37 infoBool _ [] r rfl hacc0 A1 n1 c1 rfl hR0 (by simp; omega) hz0 ?_; intro v' w3 hacc3 hgrow hat; (rw [List.nil_append] at hacc3); have hB2 := hacc0.grow_below hB0 hgrow (Nat.le_refl _) hz0; have hz2 := Nat.le_trans hz0 hgrow.size; obtain ⟨A', c', rfl, hc', hO⟩ := hacc3.own boolC_len; (rw [HRL.out] at hc' hO ⊢); (rw [hmid.out] at hB2 hO hz2); have hrows2 := (hrows.below hB2).push (x := ⟨A', n1, c'⟩) (r := r) hc' hO hz hz2; (rw [show rows.take k ++ [r] = rows.take (k + 1) by (rw [List.take_add_one, HR.out]; rfl)] at hrows2); have hap2 : Apart _ (hs ++ [⟨A', n1, c'⟩]) := hap.push (x := ⟨A', n1, c'⟩) hO (fun g hg => (hacc.row hg).2); have hacc4 := hacc.below hB2; have hB4 : Below W.heap.size W _ := hB.trans (hB2.mono hz); have hz4 := Nat.le_trans hz hz2) | (at_builtin; refine wpList_acc1 rfl _ _ 22 rfl W.heap.size 37 (.slice none 0 0) 1 24 Try.underlying22 infoBools rfl (by omega) _ _ hdC ⟨A', n1, c'⟩ rfl hacc4 _ _ rfl _ rfl (by simp) rfl (by simp [hdC, Value.oneCell']) (by omega) (by omega) (by omega) ?_; intro v' w5 hacc5 hgrow5 hat5))
      go_roundw
      case rel =>
        have hr3 := hrows2.app hgrow5 hap2
        exact ⟨k + 1, _, by omega, by go_num, hacc5, hr3.mono (Nat.le_refl _) hgrow5.size, hap2.next hat5 hr3 (Nat.le_succ _), hacc4.grow_below hB4 hgrow5 (Nat.le_refl _) hz4, by have := hgrow5.size; omega⟩
      case measure => simp [intOf]; omega
    · go_wp2
      go_ret
      obtain rfl : k = n := by omega
      rw [List.take_of_length_le (by have := HLEN.out; omega)] at hrows
      exact hacc.madeSS hrows hap hB HLEN.out

end Go.Proofs.Ytjgjdchnjiaclaa
