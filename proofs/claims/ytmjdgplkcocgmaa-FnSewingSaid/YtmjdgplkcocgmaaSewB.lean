/-
  Contracts over joins: the first order of sewing.
-/
import Derived.Test.YtmjdgplkcocgmaaSewA
set_option linter.unusedVariables false
namespace Go.Proofs.Ytmjdgplkcocgmaa
open Go.RowKit

def sliceLen : Value → Nat
  | .slice _ n _ => n
  | _ => 0
theorem Acc.sliceLen {α : Type} {w : World} {lo sz : Nat} {e : TypeId} {v : Value} {xs : List α} {cells : α → List Value} (h : Acc w lo e sz v xs cells) (hl : ∀ y, (cells y).length = sz) : sliceLen v = xs.length := by
  obtain ⟨A, c, rfl, _⟩ := h.own hl
  rfl

set_option maxHeartbeats 1000000 in
theorem firstI_any (A : Option Addr) (n c : Nat) (xs : List Join) (m : Int) (W : World) (h : Rd W A n 3 xs joinC) (hn : n ≤ 1048576) :
    Calls Try.prog 64 #[.slice A n c, .int .i64 m] W (Made W (firstOrder xs m).length 1 (firstOrder xs m) intC) := by
  have HLEN := Lib.hid h.len
  rcases ht : treeOk xs m with _ | _
  · rw [first_no ht]
    go_enter Try.func64, Try.ntmps64
    go_wp2_with (go_at_call 94; refine (treeI_any _ _ _ _ _ _ h hn ).mono ?_; rintro e w1 ⟨rfl, hb1⟩; obtain ⟨hc1, hf1⟩ := bcell hb1; have hz1 := hb1.size; (try simp at hz1); (try (have hy1_W_0 : W.heap.size < w1.heap.size := (by omega))); (try (have hy1_W_1 : W.heap.size + 1 < w1.heap.size := (by omega))); (try (have hy1_W_2 : W.heap.size + 2 < w1.heap.size := (by omega))); (try (have hy1_wr_0 : wr.heap.size < w1.heap.size := (by omega))); (try (have hy1_wr_1 : wr.heap.size + 1 < w1.heap.size := (by omega))); (try (have hy1_wr_2 : wr.heap.size + 2 < w1.heap.size := (by omega))); (try (have hyb1 : b < w1.heap.size := (by omega))))
    go_ret
    exact ⟨none, 0, rfl, Nat.le_refl _, Own.nil _ _ _ _ _ _, hb1⟩
  · rw [first_yes ht, HLEN.out, iota_len]
    have HT := Lib.hid ht
    obtain ⟨hm, hl, _, _⟩ := tree_parts ht
    rw [HLEN.out] at hl
    obtain ⟨q, rfl⟩ := Int.eq_ofNat_of_zero_le (show 0 ≤ m by omega)
    have hn11 : n ≤ 11 := by omega
    have HQ := Lib.hid (show q = n + 1 by omega)
    clear hl
    go_enter Try.func64, Try.ntmps64
    go_wp2_with (go_at_call 94; refine (treeI_any _ _ _ _ _ _ h hn ).mono ?_; rintro e w1 ⟨rfl, hb1⟩; obtain ⟨hc1, hf1⟩ := bcell hb1; have hz1 := hb1.size; (try simp at hz1); (try (have hy1_W_0 : W.heap.size < w1.heap.size := (by omega))); (try (have hy1_W_1 : W.heap.size + 1 < w1.heap.size := (by omega))); (try (have hy1_W_2 : W.heap.size + 2 < w1.heap.size := (by omega))); (try (have hy1_wr_0 : wr.heap.size < w1.heap.size := (by omega))); (try (have hy1_wr_1 : wr.heap.size + 1 < w1.heap.size := (by omega))); (try (have hy1_wr_2 : wr.heap.size + 2 < w1.heap.size := (by omega))); (try (have hyb1 : b < w1.heap.size := (by omega))))
    have hB1 : Below W.heap.size W w1 := hb1
    have hacc0 := Acc.lit0 w1 W.heap.size 3 1 intC hz1 rfl
    go_loopw [5] (fun o wr => ∃ k : Nat, k ≤ n ∧ Acc wr W.heap.size 3 1 o (iota k) intC ∧ Below W.heap.size W wr) (fun o _ => n - sliceLen o)
    case atStart => exact ⟨0, Nat.zero_le _, hacc0, by (repeat (first | exact Below.refl _ _ | assumption | (refine Below.drew ?_) | (refine below_drewN ?_ _) | (refine Below.alloc ?_ (by first | exact Nat.le_refl _ | (simp; done) | (simp; omega) | omega) _) | (refine Below.setCell ?_ (by first | exact Nat.le_refl _ | (simp; done) | (simp; omega) | omega) _) | (refine Below.trans ?_ (Below.mono (by assumption) (by first | exact Nat.le_refl _ | (simp; done) | (simp; omega) | omega)))))⟩
    case round =>
      obtain ⟨k, hk, hacc, hB⟩ := hrel
      obtain ⟨A1, c1, rfl, hc1, hO⟩ := hacc.own intC_len
      have hil := iota_len k
      rw [hil] at hc1 hO hacc ⊢
      by_cases hlt : k < n
      · go_wp2
        go_loopw [5, 20] (fun o i wr => ∃ j : Nat, j ≤ k ∧ o = .slice A1 k c1 ∧ i = .int .i64 (j : Int) ∧ Acc wr W.heap.size 3 1 (.slice A1 k c1) (iota k) intC ∧ Below W.heap.size W wr) (fun _ i _ => n - (intOf i).toNat)
        case atStart => exact ⟨0, Nat.zero_le _, rfl, rfl, hacc, hB⟩
        case round =>
          clear hacc hB hO
          obtain ⟨j, hj, rfl, rfl, hacc, hB⟩ := hrel
          have hz := hB.size
          have hjn : j < n := by omega
          obtain ⟨b, off, x, rfl, hbW, hx, g0, g1, g2⟩ := h.join hjn hB
          have HX := Lib.hid hx
          have hun := tree_units HT.out hx
          clear hx
          obtain ⟨up, a, b2⟩ := x
          simp only at g0 g1 g2 hun
          have hq := HQ.out
          have ha0 : 0 ≤ a := hun.1.1
          have hb0 : 0 ≤ b2 := hun.2.1
          have ha1 : a ≤ 1000 := by omega
          have hb1' : b2 ≤ 1000 := by omega
          clear hun hq
          have hRa : Rd (wr.alloc (.cells #[.bool up, .int .i64 a, .int .i64 b2] 76)) A1 k 1 (iota k) intC := by
            obtain ⟨A2, c2, e2, _, hO2⟩ := hacc.own intC_len
            injection e2 with e2 e3 e4
            subst e2
            have := hO2.rd
            rw [hil] at this
            exact this.below ((Below.refl _ _).alloc (Nat.le_refl _) _)
          have hacca := hacc.alloc (.cells #[.bool up, .int .i64 a, .int .i64 b2] 76)
          by_cases hjk : j < k
          · have hc : (iota k).contains (j : Int) = true := by rw [iota_has, decide_eq_true_iff]; omega
            go_wp2_with (go_at_call 95; refine (indexOf_any _ _ _ (iota k) _ _ hRa (by omega)).mono ?_; rintro e w' ⟨r, rfl, hr1, hr2, rfl⟩; have hr3 := hr1 hc)
            go_roundw
            case rel => exact ⟨j + 1, by omega, rfl, by go_num, hacca, by (repeat (first | exact Below.refl _ _ | assumption | (refine Below.drew ?_) | (refine below_drewN ?_ _) | (refine Below.alloc ?_ (by first | exact Nat.le_refl _ | (simp; done) | (simp; omega) | omega) _) | (refine Below.setCell ?_ (by first | exact Nat.le_refl _ | (simp; done) | (simp; omega) | omega) _) | (refine Below.trans ?_ (Below.mono (by assumption) (by first | exact Nat.le_refl _ | (simp; done) | (simp; omega) | omega)))))⟩
            case measure => simp [intOf]; omega
          · obtain rfl : j = k := by omega
            have hc : (iota j).contains (j : Int) = false := by rw [iota_has, decide_eq_false_iff_not]; omega
            have hrd := ready_iota HT.out HX.out
            have hj1 : j ≤ 1048576 := by omega
            go_wp2_with (first | (go_at_call 95; refine (indexOf_any _ _ _ (iota j) _ _ hRa (by omega)).mono ?_; rintro e w' ⟨r, rfl, hr1, hr2, rfl⟩; have hr3 := hr2 hc) | (go_at_call 96; refine (ready_any up a b2 _ _ _ _ (iota j) _ hRa (by omega) ha0 ha1 hb0 hb1' (by omega) (by omega)).mono ?_; rintro e w3 ⟨rfl, hb3⟩; rw [hrd]; have hacc3 := hacca.below hb3; have hz3 := hb3.size; (try simp at hz3); have hB3 : Below W.heap.size W w3 := (by (repeat (first | exact Below.refl _ _ | assumption | (refine Below.drew ?_) | (refine below_drewN ?_ _) | (refine Below.alloc ?_ (by first | exact Nat.le_refl _ | (simp; done) | (simp; omega) | omega) _) | (refine Below.setCell ?_ (by first | exact Nat.le_refl _ | (simp; done) | (simp; omega) | omega) _) | (refine Below.trans ?_ (Below.mono (by assumption) (by first | exact Nat.le_refl _ | (simp; done) | (simp; omega) | omega)))))); have hz4 : W.heap.size ≤ w3.heap.size := hB3.size) | (at_builtin; refine wpList_acc1 rfl _ _ 42 rfl W.heap.size 3 (.int .i64 0) 1 8 Try.underlying42 infoIntA rfl (by omega) _ _ intC (j : Int) rfl hacc3 _ _ rfl _ rfl (by simp) rfl (by simp [intC, Value.oneCell']) (by omega) (by omega) (by omega) ?_; intro v' w5 hacc5 hgrow5 hat5))
            go_roundw
            case rel =>
              rw [← iota_succ] at hacc5
              have hB5 := hacc3.grow_below hB3 hgrow5 (Nat.le_refl _) hz4
              exact ⟨j + 1, by omega, hacc5, hB5⟩
            case measure => rw [hacc5.sliceLen intC_len, List.length_append, iota_len]; simp [sliceLen]; omega
      · go_wp2
        go_ret
        obtain rfl : k = n := by omega
        have := hacc.made intC_len (W := W) (Nat.le_refl _) hB hil
        exact this

end Go.Proofs.Ytmjdgplkcocgmaa
