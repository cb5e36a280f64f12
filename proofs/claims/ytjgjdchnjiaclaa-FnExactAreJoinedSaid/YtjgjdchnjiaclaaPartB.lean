/-
  Contracts over lines: whether all of them hang together.
-/
import Derived.Test.YtjgjdchnjiaclaaPartA
set_option linter.unusedVariables false
namespace Go.Proofs.Ytjgjdchnjiaclaa
open Go.RowKit

theorem heads_any (m : Nat) (A : Option Addr) (n c : Nat) (xs : List Line) (W : World) (h : Rd W A n 2 xs lineC) (hn : n ≤ 20) (hm : m ≤ 10) (hm0 : 1 ≤ m) (hok : xs.all (lineOk m) = true) :
    Calls Try.prog 61 #[.int .i64 m, .slice A n c] W (Made W (headsOf m xs).length 1 (headsOf m xs) intC) := by
  unfold headsOf
  have HBD := Lib.hid (endsOf_bd m xs)
  have hel := endsOf_len m xs
  have hml := mergeAll_len m xs
  go_enter Try.func61, Try.ntmps61
  go_wp2_with (go_at_call 67; refine (parts_any m A n c xs _ (h.below (by (repeat (first | exact Below.refl _ _ | assumption | (refine Below.drew ?_) | (refine below_drewN ?_ _) | (refine Below.alloc ?_ (by first | exact Nat.le_refl _ | (simp; done) | (simp; omega) | omega) _) | (refine Below.setCell ?_ (by first | exact Nat.le_refl _ | (simp; done) | (simp; omega) | omega) _) | (refine Below.trans ?_ (Below.mono (by assumption) (by first | exact Nat.le_refl _ | (simp; done) | (simp; omega) | omega))))))) hn hm hm0 hok).mono ?_; rintro e w1 ⟨A1, c1, rfl, hk1, hO1, hb1⟩)
  have hacc1 := (Acc.lit0 W W.heap.size 3 1 intC (Nat.le_refl _) rfl).below hb1
  have hB1 : Below W.heap.size W w1 := by (repeat (first | exact Below.refl _ _ | assumption | (refine Below.drew ?_) | (refine below_drewN ?_ _) | (refine Below.alloc ?_ (by first | exact Nat.le_refl _ | (simp; done) | (simp; omega) | omega) _) | (refine Below.setCell ?_ (by first | exact Nat.le_refl _ | (simp; done) | (simp; omega) | omega) _) | (refine Below.trans ?_ (Below.mono (by assumption) (by first | exact Nat.le_refl _ | (simp; done) | (simp; omega) | omega)))))
  have hz1 := hb1.size
  simp at hz1
  go_wp2_with (go_at_call 68; refine (ends_any m A n c xs _ (h.below hB1) hn hm hok).mono ?_; rintro e w2 ⟨A2, c2, rfl, hk2, hO2, hb2⟩)
  have hacc2 := hacc1.below hb2
  have hB2 : Below W.heap.size W w2 := hB1.trans (hb2.mono (by omega))
  have hz2 := hb2.size
  have hO1' := hO1.below hb2
  clear hO1 hacc1 hB1 hok
  obtain ⟨d, hd⟩ : ∃ d, Hid (d = endsOf m xs) := ⟨_, rfl⟩
  obtain ⟨L, hL⟩ : ∃ L, Hid (L = mergeAll m xs) := ⟨_, rfl⟩
  rw [← hd.out] at hO2 HBD hel ⊢
  rw [← hL.out] at hO1' hml ⊢
  obtain ⟨lo, hlo⟩ : ∃ lo, Hid (lo = W.heap.size + 1) := ⟨_, rfl⟩
  obtain ⟨hi, hhi⟩ : ∃ hi, Hid (hi = w2.heap.size) := ⟨_, rfl⟩
  have hO1 : Own w2 lo hi A1 m 1 L intC := hO1'.mono (by rw [hlo.out]; simp) (by rw [hhi.out]; exact hz2)
  have hO2 : Own w2 lo hi A2 m 1 d intC := hO2.mono (by rw [hlo.out]; omega) (by rw [hhi.out]; exact Nat.le_refl _)
  clear hO1'
  go_wp2_with fail
  go_loopw [5, 17] (fun o i wr => ∃ k : Nat, k ≤ m ∧ i = .int .i64 k ∧ Acc wr W.heap.size 3 1 o (headsUpTo d L k) intC ∧ Sep o lo hi ∧ Own wr lo hi A1 m 1 L intC ∧ Own wr lo hi A2 m 1 d intC ∧ Below W.heap.size W wr ∧ hi ≤ wr.heap.size) (fun _ i _ => m - (intOf i).toNat)
  case atStart => exact ⟨0, Nat.zero_le _, rfl, hacc2, Sep.at_ (.inl (by have := hlo.out; omega)), hO1, hO2, hB2, Nat.le_of_eq hhi.out⟩
  case round =>
    obtain ⟨k, hk, rfl, hacc, hsep, hO1, hO2, hB, hhi⟩ := hrel
    have hz := hB.size
    by_cases hlt : k < m
    · obtain ⟨b, off, x, rfl, hbW, hx, h0⟩ := hO2.rd.int hlt (Below.refl _ _)
      obtain ⟨b', off', y, rfl, hbW', hy, h0'⟩ := hO1.rd.int hlt (Below.refl _ _)
      have hxd : d.getD k 0 = x := by rw [List.getD_eq_getElem?_getD, hx]; rfl
      have hyd : lab L k = y := by unfold lab; rw [List.getD_eq_getElem?_getD, hy]; rfl
      have hbd := HBD.out k
      rw [hxd] at hbd
      have hl := headsUpTo_len d L k
      have HS := Lib.hid (headsUpTo_succ d L k)
      have HA := Lib.hid (show headAt d L k = (decide (0 < x) && decide (y = (k : Int))) by unfold headAt; rw [hxd, hyd])
      clear hx hy hxd hyd
      by_cases hx0 : 0 < x
      · by_cases hyk : y = (k : Int)
        · have HT := Lib.hid (show headAt d L k = true by rw [HA.out, decide_eq_true hx0, decide_eq_true hyk]; rfl)
          subst hyk
          go_wp2_with (at_builtin; refine wpList_acc1 rfl _ _ 46 rfl W.heap.size 3 (.int .i64 0) 1 8 Try.underlying46 infoInt rfl (by omega) _ _ intC (k : Int) rfl hacc _ _ rfl _ rfl (by simp) rfl (by simp [intC, Value.oneCell']) (by omega) (by omega) hz ?_; intro v' w2 hacc2 hgrow hat)
          go_roundw
          case rel =>
            refine ⟨k + 1, by omega, by go_num, ?_, hsep.next hat (by show hi ≤ wr.heap.size + 1; omega), hO1.app hgrow hsep, hO2.app hgrow hsep, hacc.grow_below hB hgrow (Nat.le_refl _) hz, by have := hgrow.size; show hi ≤ _; exact Nat.le_trans hhi this⟩
            rw [HS.out, HT.out]
            exact hacc2
          case measure => simp [intOf]; omega
        · have HT := Lib.hid (show headAt d L k = false by rw [HA.out, decide_eq_false hyk, Bool.and_false])
          have HE := Lib.hid (show headsUpTo d L (k + 1) = headsUpTo d L k by rw [HS.out, HT.out]; simp)
          have hyk' : (y == (k : Int)) = false := by rw [beq_eq_false_iff_ne]; exact hyk
          clear hyk
          go_wp2
          go_roundw
          case rel => exact ⟨k + 1, by omega, by go_num, by rw [HE.out]; exact hacc, hsep, hO1, hO2, hB, hhi⟩
          case measure => simp [intOf]; omega
      · have HT := Lib.hid (show headAt d L k = false by rw [HA.out, decide_eq_false hx0]; rfl)
        have HE := Lib.hid (show headsUpTo d L (k + 1) = headsUpTo d L k by rw [HS.out, HT.out]; simp)
        have hx0' : decide (0 < x) = false := decide_eq_false hx0
        go_wp2
        go_roundw
        case rel => exact ⟨k + 1, by omega, by go_num, by rw [HE.out]; exact hacc, hsep, hO1, hO2, hB, hhi⟩
        case measure => simp [intOf]; omega
    · go_wp2
      go_ret
      obtain rfl : k = m := by omega
      have hM := hacc.made intC_len (W := W) (Nat.le_refl _) hB rfl
      rw [hd.out, hL.out] at hM
      exact hM

theorem joinedI_any (m : Int) (A : Option Addr) (n c : Nat) (xs : List Line) (W : World) (h : Rd W A n 2 xs lineC) (hn : n ≤ 1048576) :
    Calls Try.prog 38 #[.int .i64 m, .slice A n c] W fun e w' => e = .returned (.bool (areJoined m xs)) ∧ Below W.heap.size W w' := by
  rcases hok : linesOk m xs with _ | _
  · have HN := Lib.hid (joined_no hok)
    go_enter Try.func38, Try.ntmps38
    go_wp2_with (go_at_call 35; refine (linesOkI_any _ A n c xs _ h hn).mono ?_; rintro e w1 ⟨rfl, hb1⟩; rw [hok])
    go_ret
    exact ⟨ret_b HN.out, hb1⟩
  · have hp := linesOk_parts hok
    have hlen := h.len
    obtain ⟨p, rfl⟩ := Int.eq_ofNat_of_zero_le (show 0 ≤ m by omega)
    have hn20 : n ≤ 20 := by omega
    have hp10 : p ≤ 10 := by omega
    have hp1 : 1 ≤ p := by omega
    have hall := Lib.hid hp.2.2
    have HEQ := Lib.hid (joined_eq hok)
    rw [Int.toNat_natCast] at HEQ
    clear hp hlen
    obtain ⟨l, hl⟩ : ∃ l, Hid (l = headsOf p xs) := ⟨_, rfl⟩
    rw [← hl.out] at HEQ
    have hh := heads_any p A n c xs
    rw [← hl.out] at hh
    have HH := Lib.hid hh
    clear hh
    by_cases hle : l.length ≤ 1
    · rw [decide_eq_true hle] at HEQ
      go_enter Try.func38, Try.ntmps38
      go_wp2_with (first | (go_at_call 35; refine (linesOkI_any _ A n c xs _ h hn).mono ?_; rintro e w1 ⟨rfl, hb1⟩; rw [hok]; have hz1 := hb1.size) | (go_at_call 61; refine (HH.out _ (h.below hb1) hn20 hp10 hp1 hall.out).mono ?_; rintro e w2 ⟨A2, c2, rfl, hk2, hO2, hb2⟩))
      go_ret
      exact ⟨ret_b (by first | exact HEQ.out | (rw [decide_eq_false (by omega : ¬ ((l.length : Int) ≤ 1))]; exact HEQ.out) | (rw [decide_eq_true (by omega : ((l.length : Int) ≤ 1))]; exact HEQ.out)), hb1.trans (hb2.mono hz1)⟩
    · rw [decide_eq_false hle] at HEQ
      have hle' : ¬ ((l.length : Int) ≤ 1) := by omega
      go_enter Try.func38, Try.ntmps38
      go_wp2_with (first | (go_at_call 35; refine (linesOkI_any _ A n c xs _ h hn).mono ?_; rintro e w1 ⟨rfl, hb1⟩; rw [hok]; have hz1 := hb1.size) | (go_at_call 61; refine (HH.out _ (h.below hb1) hn20 hp10 hp1 hall.out).mono ?_; rintro e w2 ⟨A2, c2, rfl, hk2, hO2, hb2⟩))
      go_ret
      exact ⟨ret_b (by first | exact HEQ.out | (rw [decide_eq_false (by omega : ¬ ((l.length : Int) ≤ 1))]; exact HEQ.out) | (rw [decide_eq_true (by omega : ((l.length : Int) ≤ 1))]; exact HEQ.out)), hb1.trans (hb2.mono hz1)⟩

theorem joinedS_any (m : Int) (A : Option Addr) (n c : Nat) (xs : List Line) (W : World) (h : Rd W A n 2 xs lineC) (hn : n ≤ 1048576) :
    Calls Try.prog 37 #[.int .i64 m, .slice A n c] W fun e w' => e = .returned (.bool (areJoined m xs)) ∧ Below W.heap.size W w' := by
  rcases hok : linesOk m xs with _ | _
  · have HN := Lib.hid (joined_no hok)
    go_enter Try.func37, Try.ntmps37
    go_wp2_with (go_at_call 33; refine (linesOkS_any _ A n c xs _ h hn).mono ?_; rintro e w1 ⟨rfl, hb1⟩; rw [hok])
    go_ret
    exact ⟨ret_b HN.out, hb1⟩
  · have hp := linesOk_parts hok
    have hlen := Lib.hid h.len
    obtain ⟨p, rfl⟩ := Int.eq_ofNat_of_zero_le (show 0 ≤ m by omega)
    have hn20 : n ≤ 20 := by have := hlen.out; omega
    have hp10 : p ≤ 10 := by omega
    have hp1 : 1 ≤ p := by omega
    have hall := Lib.hid hp.2.2
    have HOK := Lib.hid hok
    clear hp
    go_enter Try.func37, Try.ntmps37
    go_wp2_with (first | (go_at_call 33; refine (linesOkS_any _ A n c xs _ h hn).mono ?_; rintro e w1 ⟨rfl, hb1⟩; rw [hok]; have hz1 := hb1.size) | (go_at_call 60; refine (l20Parts_any p A n c xs _ (h.below hb1) hn20 hp10 hp1 hall.out).mono ?_; rintro e w2 ⟨A2, c2, rfl, hk2, hO2, hb2⟩))
    have hB2 : Below W.heap.size W w2 := hb1.trans (hb2.mono hz1)
    obtain ⟨L, hL⟩ : ∃ L, Hid (L = mergeAll p xs) := ⟨_, rfl⟩
    rw [← hL.out] at hO2
    obtain ⟨g, T, rfl, hgl, hgw, hP⟩ := hO2.2 (by omega)
    clear hO2 hok
    go_loopw [6] (fun i wr => ∃ k : Nat, 1 ≤ k ∧ (n = 0 ∨ k ≤ n) ∧ i = .int .i64 (k : Int) ∧ Hid (∀ j, 1 ≤ j → j < k → j < n → joinedAt p xs j = true) ∧ Part wr g T p 1 L intC p ∧ Below W.heap.size W wr) (fun i _ => n - (intOf i).toNat)
    case atStart => exact ⟨1, Nat.le_refl _, by omega, rfl, fun j hj1 hj2 => absurd hj2 (by omega), hP, hB2⟩
    case round =>
      clear hP hB2 hgw
      obtain ⟨k, hk1, hk, rfl, hall2, hP, hB⟩ := hrel
      have hz := hB.size
      by_cases hlt : k < n
      · obtain ⟨b, off, x, e0, hbW, hx, g0, g1⟩ := h.line hlt hB
        subst e0
        obtain ⟨b2, off2, y, e0, hbW2, hy, k0, k1⟩ := h.line (show 0 < n by omega) hB
        injection e0 with e0
        injection e0 with e1 e2 e3
        subst e1 e2
        have hxo := lineOk_bd (lineOk_at hall.out hx)
        have hyo := lineOk_bd (lineOk_at hall.out hy)
        have HJ := Lib.hid (show joinedAt p xs k = decide (lab L x.From.toNat = lab L y.From.toNat) by
          unfold joinedAt
          rw [hL.out, List.getD_eq_getElem?_getD, List.getD_eq_getElem?_getD, hx, hy]; rfl)
        clear hx hy
        obtain ⟨x1, x2⟩ := x
        obtain ⟨y1, y2⟩ := y
        simp only at g0 g1 k0 k1 hxo hyo HJ
        obtain ⟨p1, rfl⟩ := Int.eq_ofNat_of_zero_le hxo.1.1
        obtain ⟨q1, rfl⟩ := Int.eq_ofNat_of_zero_le hyo.1.1
        rw [Int.toNat_natCast, Int.toNat_natCast] at HJ
        have hp1m : p1 < p := by omega
        have hq1m : q1 < p := by omega
        have hLl : L.length = p := by rw [hL.out, mergeAll_len]
        have hcp := hP.int_at hLl hp1m
        have hcq := hP.int_at hLl hq1m
        obtain ⟨vp, hvp⟩ : ∃ v, Hid (v = L.getD p1 0) := ⟨_, rfl⟩
        obtain ⟨vq, hvq⟩ : ∃ v, Hid (v = L.getD q1 0) := ⟨_, rfl⟩
        rw [← hvp.out] at hcp
        rw [← hvq.out] at hcq
        have HJ2 := Lib.hid (show joinedAt p xs k = decide (vp = vq) by rw [HJ.out, hvp.out, hvq.out]; rfl)
        clear hxo hyo
        simp only [Nat.zero_mul, Nat.add_zero] at k0 k1
        by_cases hv : vp = vq
        · subst hv
          have HT := Lib.hid (show joinedAt p xs k = true by rw [HJ2.out]; simp)
          go_wp2
          go_quiet (fail)
          go_wp2
          go_roundw
          case rel =>
            refine ⟨k + 1, by omega, by omega, by go_num, fun j hj1 hj2 hj3 => ?_, hP, by (repeat (first | exact Below.refl _ _ | assumption | (refine Below.drew ?_) | (refine below_drewN ?_ _) | (refine Below.alloc ?_ (by first | exact Nat.le_refl _ | (simp; done) | (simp; omega) | omega) _) | (refine Below.setCell ?_ (by first | exact Nat.le_refl _ | (simp; done) | (simp; omega) | omega) _) | (refine Below.trans ?_ (Below.mono (by assumption) (by first | exact Nat.le_refl _ | (simp; done) | (simp; omega) | omega)))))⟩
            by_cases e : j = k
            · rw [e]; exact HT.out
            · exact hall2.out j hj1 (by omega) hj3
          case measure => simp [intOf]; omega
        · have HN := Lib.hid (joined_bad (n := (p : Int)) (l := xs) (k := k) (by rw [hlen.out]; exact hlt) (by rw [Int.toNat_natCast, HJ2.out, decide_eq_false hv]))
          have hv' : (vp == vq) = false := by rw [beq_eq_false_iff_ne]; exact hv
          clear hv
          go_wp2
          go_quiet (fail)
          go_wp2
          go_ret
          exact ⟨ret_b HN.out, by (repeat (first | exact Below.refl _ _ | assumption | (refine Below.drew ?_) | (refine below_drewN ?_ _) | (refine Below.alloc ?_ (by first | exact Nat.le_refl _ | (simp; done) | (simp; omega) | omega) _) | (refine Below.setCell ?_ (by first | exact Nat.le_refl _ | (simp; done) | (simp; omega) | omega) _) | (refine Below.trans ?_ (Below.mono (by assumption) (by first | exact Nat.le_refl _ | (simp; done) | (simp; omega) | omega)))))⟩
      · have HN := Lib.hid (joined_end HOK.out fun j hj1 hj2 => by rw [Int.toNat_natCast]; rw [hlen.out] at hj2; exact hall2.out j hj1 (by omega) hj2)
        go_wp2
        go_ret
        exact ⟨ret_b HN.out, hB⟩

end Go.Proofs.Ytjgjdchnjiaclaa
