/-
  Contracts over lines: the odd points.
-/
import Derived.Test.YtjgjdchnjiaclaaLineB
set_option linter.unusedVariables false
namespace Go.Proofs.Ytjgjdchnjiaclaa
open Go.RowKit

theorem odd_any (m : Nat) (A : Option Addr) (n c : Nat) (xs : List Line) (W : World) (h : Rd W A n 2 xs lineC) (hn : n ≤ 20) (hm : m ≤ 10) (hok : xs.all (lineOk m) = true) :
    Calls Try.prog 64 #[.int .i64 m, .slice A n c] W (Made W (oddUpTo (endsOf m xs) m).length 1 (oddUpTo (endsOf m xs) m) intC) := by
  have HBD := Lib.hid (endsOf_bd m xs)
  have hlen := Lib.hid h.len
  go_enter Try.func64, Try.ntmps64
  go_wp2_with fail
  refine (ends_any m A n c xs _ (h.below (by (repeat (first | exact Below.refl _ _ | assumption | (refine Below.drew ?_) | (refine below_drewN ?_ _) | (refine Below.alloc ?_ (by first | exact Nat.le_refl _ | (simp; done) | (simp; omega) | omega) _) | (refine Below.setCell ?_ (by first | exact Nat.le_refl _ | (simp; done) | (simp; omega) | omega) _) | (refine Below.trans ?_ (Below.mono (by assumption) (by first | exact Nat.le_refl _ | (simp; done) | (simp; omega) | omega))))))) hn hm hok).mono ?_
  rintro e w1 ⟨A1, c1, rfl, hk1, hO1, hb1⟩
  have hl1 := hO1.len
  have HL := Lib.hid hlen.out
  clear hok
  obtain ⟨d, hd⟩ : ∃ d, Hid (d = endsOf m xs) := ⟨_, rfl⟩
  rw [← hd.out] at hO1 HBD hl1 ⊢
  obtain ⟨lo, hlo⟩ : ∃ lo, Hid (lo = W.heap.size + 1) := ⟨_, rfl⟩
  obtain ⟨hi, hhi⟩ : ∃ hi, Hid (hi = w1.heap.size) := ⟨_, rfl⟩
  have hO1 : Own w1 lo hi A1 m 1 d intC := hO1.mono (by rw [hlo.out]; simp) (by rw [hhi.out]; exact Nat.le_refl _)
  have hacc1 := (Acc.lit0 W W.heap.size 3 1 intC (Nat.le_refl _) rfl).below hb1
  have hB1 : Below W.heap.size W w1 := by (repeat (first | exact Below.refl _ _ | assumption | (refine Below.drew ?_) | (refine below_drewN ?_ _) | (refine Below.alloc ?_ (by first | exact Nat.le_refl _ | (simp; done) | (simp; omega) | omega) _) | (refine Below.setCell ?_ (by first | exact Nat.le_refl _ | (simp; done) | (simp; omega) | omega) _) | (refine Below.trans ?_ (Below.mono (by assumption) (by first | exact Nat.le_refl _ | (simp; done) | (simp; omega) | omega)))))
  go_wp2_with fail
  go_loopw [5, 13] (fun o i wr => ∃ k : Nat, k ≤ m ∧ i = .int .i64 k ∧ Acc wr W.heap.size 3 1 o (oddUpTo d k) intC ∧ Sep o lo hi ∧ Own wr lo hi A1 m 1 d intC ∧ Below W.heap.size W wr ∧ hi ≤ wr.heap.size) (fun _ i _ => m - (intOf i).toNat)
  case atStart => exact ⟨0, Nat.zero_le _, rfl, hacc1, Sep.at_ (.inl (by have := hlo.out; omega)), hO1, hB1, Nat.le_of_eq hhi.out⟩
  case round =>
    obtain ⟨k, hk, rfl, hacc, hsep, hO, hB, hhi⟩ := hrel
    have hz := hB.size
    by_cases hlt : k < m
    · obtain ⟨b, off, x, rfl, hbW, hx, h0⟩ := hO.rd.int hlt (Below.refl _ _)
      have hxd : d.getD k 0 = x := by rw [List.getD_eq_getElem?_getD, hx]; rfl
      have hbd := HBD.out k
      rw [hxd] at hbd
      have HX := Lib.hid hxd
      have hl := oddUpTo_len d k
      clear hx hxd
      by_cases hodd : (x % 2 == 1) = true
      · go_wp2_with (at_builtin; refine wpList_acc1 rfl _ _ 46 rfl W.heap.size 3 (.int .i64 0) 1 8 Try.underlying46 infoInt rfl (by omega) _ _ intC (k : Int) rfl hacc _ _ rfl _ rfl (by simp) rfl (by simp [intC, Value.oneCell']) (by omega) (by omega) (by omega) ?_; intro v' w2 hacc2 hgrow hat)
        go_roundw
        case rel =>
          refine ⟨k + 1, by omega, by go_num, ?_, hsep.next hat (by omega), hO.app hgrow hsep, hacc.grow_below hB hgrow (Nat.le_refl _) hz, by have := hgrow.size; omega⟩
          rw [oddUpTo_succ, HX.out, if_pos hodd]
          exact hacc2
        case measure => simp [intOf]; omega
      · have hodd' : (x % 2 == 1) = false := by simpa using hodd
        have HE := Lib.hid (show oddUpTo d (k + 1) = oddUpTo d k by rw [oddUpTo_succ, HX.out, if_neg hodd, List.append_nil])
        clear hodd
        go_wp2_with fail
        go_roundw
        case rel => exact ⟨k + 1, by omega, by go_num, by rw [HE.out]; exact hacc, hsep, hO, hB, hhi⟩
        case measure => simp [intOf]; omega
    · go_wp2
      go_ret
      obtain rfl : k = m := by omega
      have hM := hacc.made intC_len (W := W) (Nat.le_refl _) hB rfl
      rw [hd.out] at hM
      exact hM

theorem oddPointsI_any (m : Int) (A : Option Addr) (n c : Nat) (xs : List Line) (W : World) (h : Rd W A n 2 xs lineC) (hn : n ≤ 1048576) :
    Calls Try.prog 44 #[.int .i64 m, .slice A n c] W (Made W (oddPoints m xs).length 1 (oddPoints m xs) intC) := by
  by_cases hok : linesOk m xs = true
  · have hp := linesOk_parts hok
    have hlen := h.len
    have hX : oddPoints m xs = oddUpTo (endsOf m.toNat xs) m.toNat := by unfold oddPoints; rw [if_pos hok]
    rw [hX]
    obtain ⟨p, rfl⟩ := Int.eq_ofNat_of_zero_le (show 0 ≤ m by omega)
    rw [Int.toNat_natCast]
    have hn20 : n ≤ 20 := by omega
    have hp10 : p ≤ 10 := by omega
    have hall := Lib.hid hp.2.2
    clear hX hlen hp
    go_enter Try.func44, Try.ntmps44
    go_wp2_with fail
    refine (linesOkI_any _ A n c xs _ h hn).mono ?_
    rintro e w1 ⟨rfl, hb1⟩
    go_wp2_with fail
    refine (odd_any p A n c xs _ (h.below hb1) hn20 hp10 hall.out).mono ?_
    rintro e w2 ⟨A2, c2, rfl, hk2, hO2, hb2⟩
    have hz1 := hb1.size
    go_wp2_with fail
    go_ret
    exact ⟨A2, c2, rfl, hk2, hO2.mono hz1 (Nat.le_refl _), by (repeat (first | exact Below.refl _ _ | assumption | (refine Below.drew ?_) | (refine below_drewN ?_ _) | (refine Below.alloc ?_ (by first | exact Nat.le_refl _ | (simp; done) | (simp; omega) | omega) _) | (refine Below.setCell ?_ (by first | exact Nat.le_refl _ | (simp; done) | (simp; omega) | omega) _) | (refine Below.trans ?_ (Below.mono (by assumption) (by first | exact Nat.le_refl _ | (simp; done) | (simp; omega) | omega)))))⟩
  · have hok' : linesOk m xs = false := by simpa using hok
    have hX : oddPoints m xs = [] := by unfold oddPoints; rw [if_neg hok]
    rw [hX]
    clear hX hok
    go_enter Try.func44, Try.ntmps44
    go_wp2_with fail
    refine (linesOkI_any _ A n c xs _ h hn).mono ?_
    rintro e w1 ⟨rfl, hb1⟩
    go_wp2_with fail
    go_ret
    exact ⟨none, 0, rfl, Nat.le_refl _, Own.nil _ _ _ _ _ _, hb1⟩

theorem oddPointsS_any (m : Int) (A : Option Addr) (n c : Nat) (xs : List Line) (W : World) (h : Rd W A n 2 xs lineC) (hn : n ≤ 1048576) :
    Calls Try.prog 43 #[.int .i64 m, .slice A n c] W (Made W (oddPoints m xs).length 1 (oddPoints m xs) intC) := by
  by_cases hok : linesOk m xs = true
  · have hp := linesOk_parts hok
    have hlen := h.len
    have hX : oddPoints m xs = oddUpTo (endsOf m.toNat xs) m.toNat := by unfold oddPoints; rw [if_pos hok]
    rw [hX]
    obtain ⟨m, rfl⟩ := Int.eq_ofNat_of_zero_le (show 0 ≤ m by omega)
    rw [Int.toNat_natCast]
    have hn20 : n ≤ 20 := by omega
    have hm10 : m ≤ 10 := by omega
    have hall := Lib.hid hp.2.2
    have HBD := Lib.hid (endsOf_bd m xs)
    clear hX hlen hp
    go_enter Try.func43, Try.ntmps43
    go_wp2_with fail
    refine (linesOkS_any _ A n c xs _ (h.below (by (repeat (first | exact Below.refl _ _ | assumption | (refine Below.drew ?_) | (refine below_drewN ?_ _) | (refine Below.alloc ?_ (by first | exact Nat.le_refl _ | (simp; done) | (simp; omega) | omega) _) | (refine Below.setCell ?_ (by first | exact Nat.le_refl _ | (simp; done) | (simp; omega) | omega) _) | (refine Below.trans ?_ (Below.mono (by assumption) (by first | exact Nat.le_refl _ | (simp; done) | (simp; omega) | omega))))))) hn).mono ?_
    rintro e w1 ⟨rfl, hb1⟩
    go_wp2_with fail
    refine (degrees_any m A n c xs _ ((h.below (by (repeat (first | exact Below.refl _ _ | assumption | (refine Below.drew ?_) | (refine below_drewN ?_ _) | (refine Below.alloc ?_ (by first | exact Nat.le_refl _ | (simp; done) | (simp; omega) | omega) _) | (refine Below.setCell ?_ (by first | exact Nat.le_refl _ | (simp; done) | (simp; omega) | omega) _) | (refine Below.trans ?_ (Below.mono (by assumption) (by first | exact Nat.le_refl _ | (simp; done) | (simp; omega) | omega))))))).below hb1) hn20 hm10 hall.out).mono ?_
    rintro e w2 ⟨A1, c1, rfl, hk1, hO1, hb2⟩
    have hacc1 := ((Acc.lit0 W W.heap.size 3 1 intC (Nat.le_refl _) rfl).below hb1).below hb2
    have hz1 := hb1.size
    simp at hz1
    have hz2 := hb2.size
    have hB1 : Below W.heap.size W w1 := by (repeat (first | exact Below.refl _ _ | assumption | (refine Below.drew ?_) | (refine below_drewN ?_ _) | (refine Below.alloc ?_ (by first | exact Nat.le_refl _ | (simp; done) | (simp; omega) | omega) _) | (refine Below.setCell ?_ (by first | exact Nat.le_refl _ | (simp; done) | (simp; omega) | omega) _) | (refine Below.trans ?_ (Below.mono (by assumption) (by first | exact Nat.le_refl _ | (simp; done) | (simp; omega) | omega)))))
    have hB2 : Below W.heap.size W w2 := by (repeat (first | exact Below.refl _ _ | assumption | (refine Below.drew ?_) | (refine below_drewN ?_ _) | (refine Below.alloc ?_ (by first | exact Nat.le_refl _ | (simp; done) | (simp; omega) | omega) _) | (refine Below.setCell ?_ (by first | exact Nat.le_refl _ | (simp; done) | (simp; omega) | omega) _) | (refine Below.trans ?_ (Below.mono (by assumption) (by first | exact Nat.le_refl _ | (simp; done) | (simp; omega) | omega)))))
    obtain ⟨d, hd⟩ : ∃ d, Hid (d = endsOf m xs) := ⟨_, rfl⟩
    rw [← hd.out] at hO1 HBD ⊢
    obtain ⟨lo, hlo⟩ : ∃ lo, Hid (lo = w1.heap.size) := ⟨_, rfl⟩
    obtain ⟨hi, hhi⟩ : ∃ hi, Hid (hi = w2.heap.size) := ⟨_, rfl⟩
    have hO1 : Own w2 lo hi A1 m 1 d intC := hO1.mono (by rw [hlo.out]; exact Nat.le_refl _) (by rw [hhi.out]; exact Nat.le_refl _)
    have hWlo : W.heap.size < lo := by have := hlo.out; omega
    go_wp2_with fail
    go_loopw [5, 7] (fun o i wr => ∃ k : Nat, k ≤ m ∧ i = .int .i64 k ∧ Acc wr W.heap.size 3 1 o (oddUpTo d k) intC ∧ Sep o lo hi ∧ Own wr lo hi A1 m 1 d intC ∧ Below W.heap.size W wr ∧ hi ≤ wr.heap.size) (fun _ i _ => m - (intOf i).toNat)
    case atStart => exact ⟨0, Nat.zero_le _, rfl, hacc1, Sep.at_ (.inl hWlo), hO1, hB2, Nat.le_of_eq hhi.out⟩
    case round =>
      obtain ⟨k, hk, rfl, hacc, hsep, hO, hB, hhi⟩ := hrel
      have hz := hB.size
      by_cases hlt : k < m
      · obtain ⟨b, off, x, rfl, hbW, hx, h0⟩ := hO.rd.int hlt (Below.refl _ _)
        have hxd : d.getD k 0 = x := by rw [List.getD_eq_getElem?_getD, hx]; rfl
        have hbd := HBD.out k
        rw [hxd] at hbd
        have HX := Lib.hid hxd
        have hl := oddUpTo_len d k
        clear hx hxd
        by_cases hodd : (x % 2 == 1) = true
        · go_wp2_with (at_builtin; refine wpList_acc1 rfl _ _ 46 rfl W.heap.size 3 (.int .i64 0) 1 8 Try.underlying46 infoInt rfl (by omega) _ _ intC (k : Int) rfl hacc _ _ rfl _ rfl (by simp) rfl (by simp [intC, Value.oneCell']) (by omega) (by omega) (by omega) ?_; intro v' w2 hacc2 hgrow hat)
          go_roundw
          case rel =>
            refine ⟨k + 1, by omega, by go_num, ?_, hsep.next hat (by omega), hO.app hgrow hsep, hacc.grow_below hB hgrow (Nat.le_refl _) hz, by have := hgrow.size; omega⟩
            rw [oddUpTo_succ, HX.out, if_pos hodd]
            exact hacc2
          case measure => simp [intOf]; omega
        · have hodd' : (x % 2 == 1) = false := by simpa using hodd
          have HE := Lib.hid (show oddUpTo d (k + 1) = oddUpTo d k by rw [oddUpTo_succ, HX.out, if_neg hodd, List.append_nil])
          clear hodd
          go_wp2_with fail
          go_roundw
          case rel => exact ⟨k + 1, by omega, by go_num, by rw [HE.out]; exact hacc, hsep, hO, hB, hhi⟩
          case measure => simp [intOf]; omega
      · go_wp2
        go_ret
        obtain rfl : k = m := by omega
        have hM := hacc.made intC_len (W := W) (Nat.le_refl _) hB rfl
        rw [hd.out] at hM
        exact hM
  · have hok' : linesOk m xs = false := by simpa using hok
    have hX : oddPoints m xs = [] := by unfold oddPoints; rw [if_neg hok]
    rw [hX]
    clear hX hok
    go_enter Try.func43, Try.ntmps43
    go_wp2_with fail
    refine (linesOkS_any _ A n c xs _ (h.below (by (repeat (first | exact Below.refl _ _ | assumption | (refine Below.drew ?_) | (refine below_drewN ?_ _) | (refine Below.alloc ?_ (by first | exact Nat.le_refl _ | (simp; done) | (simp; omega) | omega) _) | (refine Below.setCell ?_ (by first | exact Nat.le_refl _ | (simp; done) | (simp; omega) | omega) _) | (refine Below.trans ?_ (Below.mono (by assumption) (by first | exact Nat.le_refl _ | (simp; done) | (simp; omega) | omega))))))) hn).mono ?_
    rintro e w1 ⟨rfl, hb1⟩
    have hz1 := hb1.size
    simp at hz1
    go_wp2_with fail
    go_ret
    exact ⟨_, 0, rfl, Nat.le_refl _, Own.nil _ _ _ _ _ _, by (repeat (first | exact Below.refl _ _ | assumption | (refine Below.drew ?_) | (refine below_drewN ?_ _) | (refine Below.alloc ?_ (by first | exact Nat.le_refl _ | (simp; done) | (simp; omega) | omega) _) | (refine Below.setCell ?_ (by first | exact Nat.le_refl _ | (simp; done) | (simp; omega) | omega) _) | (refine Below.trans ?_ (Below.mono (by assumption) (by first | exact Nat.le_refl _ | (simp; done) | (simp; omega) | omega)))))⟩

end Go.Proofs.Ytjgjdchnjiaclaa
