/-
  Contracts of pressing: one row is pressed the other way.
-/
import Derived.Test.YtjgjdchnjiaclaaPressE
import Derived.Test.YtjgjdchnjiaclaaRowSet
set_option linter.unusedVariables false
namespace Go.Proofs.Ytjgjdchnjiaclaa
open Go.RowKit

def FlipPost (W : World) (n : Nat) (rows : List (List Bool)) (ok : Bool) (e : Ending) (w' : World) : Prop :=
  ∃ A c, e = .returned (.tuple #[.slice A n c, .bool ok]) ∧ n ≤ c ∧ OwnSS w' W.heap.size w'.heap.size A n rows boolC ∧ Below W.heap.size W w'

theorem set_same {α : Type} {l : List α} {k : Nat} {x : α} (h : l[k]? = some x) : l.set k x = l := by
  have hk : k < l.length := (List.getElem?_eq_some_iff.1 h).1
  apply List.ext_getElem?
  intro i
  rw [List.getElem?_set]
  split
  · rename_i e
    subst e
    simp [h]
  · rfl

theorem flipS_any (A : Option Addr) (n c : Nat) (rows : List (List Bool)) (i : Int) (W : World) (h : RdSS W A n rows boolC) (hn : n ≤ 1048576) (hr : ∀ r ∈ rows, r.length ≤ 1048576) :
    Calls Try.prog 26 #[.slice A n c, .int .i64 i] W (FlipPost W n (flipRow rows i) (flipOk rows i)) := by
  have hmax : ∀ r ∈ rows, r.length ≤ 9223372036854775807 := fun r hr' => by have := hr r hr'; omega
  have HLEN := Lib.hid h.len
  have hok : flipOk rows i = (pressingOk rows && within i 0 ((n : Int) - 1)) := by unfold flipOk; rw [HLEN.out]
  rcases hp : pressingOk rows with _ | _
  · rw [hp, Bool.false_and] at hok
    rw [flipRow_no hok, hok]
    go_enter Try.func26, Try.ntmps26
    go_wp2_with fail
    refine (l13Copy_any A n c rows _ h hn hr).mono ?_
    rintro e w1 ⟨A1, c1, rfl, hk1, hO, hb1⟩
    obtain ⟨hc1, hf1⟩ := bcell hb1
    have hz1 := hb1.size
    go_wp2_with fail
    refine (pressingOkS_any A n c rows _ (h.below hb1) hn hmax).mono ?_
    rintro e w2 ⟨rfl, hb2⟩
    obtain ⟨hc2, hf2⟩ := bcell hb2
    have hz2 := hb2.size
    have hB2 : Below W.heap.size W w2 := by (repeat (first | exact Below.refl _ _ | assumption | (refine Below.drew ?_) | (refine below_drewN ?_ _) | (refine Below.alloc ?_ (by first | exact Nat.le_refl _ | (simp; done) | (simp; omega) | omega) _) | (refine Below.setCell ?_ (by first | exact Nat.le_refl _ | (simp; done) | (simp; omega) | omega) _) | (refine Below.trans ?_ (Below.mono (by assumption) (by first | exact Nat.le_refl _ | (simp; done) | (simp; omega) | omega)))))
    go_wp2_with fail
    go_ret2
    exact ⟨A1, c1, rfl, hk1, (hO.below hb2).mono (Nat.le_refl _) hz2, by (repeat (first | exact Below.refl _ _ | assumption | (refine Below.drew ?_) | (refine below_drewN ?_ _) | (refine Below.alloc ?_ (by first | exact Nat.le_refl _ | (simp; done) | (simp; omega) | omega) _) | (refine Below.setCell ?_ (by first | exact Nat.le_refl _ | (simp; done) | (simp; omega) | omega) _) | (refine Below.trans ?_ (Below.mono (by assumption) (by first | exact Nat.le_refl _ | (simp; done) | (simp; omega) | omega)))))⟩
  · rw [hp, Bool.true_and] at hok
    obtain ⟨⟨p1, p2⟩, p3, p4⟩ := pressing_parts hp
    rw [HLEN.out] at p1 p2
    rcases hw : within i 0 ((n : Int) - 1) with _ | _
    · rw [hw] at hok
      rw [flipRow_no hok, hok]
      go_enter Try.func26, Try.ntmps26
      go_wp2_with fail
      refine (l13Copy_any A n c rows _ h hn hr).mono ?_
      rintro e w1 ⟨A1, c1, rfl, hk1, hO, hb1⟩
      obtain ⟨hc1, hf1⟩ := bcell hb1
      have hz1 := hb1.size
      go_wp2_with fail
      refine (pressingOkS_any A n c rows _ (h.below hb1) hn hmax).mono ?_
      rintro e w2 ⟨rfl, hb2⟩
      obtain ⟨hc2, hf2⟩ := bcell hb2
      have hz2 := hb2.size
      have hB2 : Below W.heap.size W w2 := by (repeat (first | exact Below.refl _ _ | assumption | (refine Below.drew ?_) | (refine below_drewN ?_ _) | (refine Below.alloc ?_ (by first | exact Nat.le_refl _ | (simp; done) | (simp; omega) | omega) _) | (refine Below.setCell ?_ (by first | exact Nat.le_refl _ | (simp; done) | (simp; omega) | omega) _) | (refine Below.trans ?_ (Below.mono (by assumption) (by first | exact Nat.le_refl _ | (simp; done) | (simp; omega) | omega)))))
      go_wp2_with (go_at_call 49; refine (l01In_any _ _ _ _).mono ?_; rintro e w' ⟨rfl, rfl⟩)
      go_ret2
      exact ⟨A1, c1, rfl, hk1, (hO.below hb2).mono (Nat.le_refl _) hz2, by (repeat (first | exact Below.refl _ _ | assumption | (refine Below.drew ?_) | (refine below_drewN ?_ _) | (refine Below.alloc ?_ (by first | exact Nat.le_refl _ | (simp; done) | (simp; omega) | omega) _) | (refine Below.setCell ?_ (by first | exact Nat.le_refl _ | (simp; done) | (simp; omega) | omega) _) | (refine Below.trans ?_ (Below.mono (by assumption) (by first | exact Nat.le_refl _ | (simp; done) | (simp; omega) | omega)))))⟩
    · rw [hw] at hok
      have hw' := within_iff.1 hw
      obtain ⟨k, rfl⟩ := Int.eq_ofNat_of_zero_le hw'.1
      have hkn : k < n := by omega
      obtain ⟨r, hrk⟩ : ∃ r, rows[k]? = some r := ⟨_, List.getElem?_eq_getElem (by rw [HLEN.out]; exact hkn)⟩
      rw [flipRow_yes hok hrk, hok]
      have HRK := Lib.hid hrk
      have hrl := p4 k r hrk
      clear p4 hrk
      go_enter Try.func26, Try.ntmps26
      go_wp2_with fail
      refine (l13Copy_any A n c rows _ h hn hr).mono ?_
      rintro e w1 ⟨A1, c1, rfl, hk1, hO, hb1⟩
      obtain ⟨hc1, hf1⟩ := bcell hb1
      have hz1 := hb1.size
      go_wp2_with fail
      refine (pressingOkS_any A n c rows _ (h.below hb1) hn hmax).mono ?_
      rintro e w2 ⟨rfl, hb2⟩
      obtain ⟨hc2, hf2⟩ := bcell hb2
      have hz2 := hb2.size
      have hB2 : Below W.heap.size W w2 := by (repeat (first | exact Below.refl _ _ | assumption | (refine Below.drew ?_) | (refine below_drewN ?_ _) | (refine Below.alloc ?_ (by first | exact Nat.le_refl _ | (simp; done) | (simp; omega) | omega) _) | (refine Below.setCell ?_ (by first | exact Nat.le_refl _ | (simp; done) | (simp; omega) | omega) _) | (refine Below.trans ?_ (Below.mono (by assumption) (by first | exact Nat.le_refl _ | (simp; done) | (simp; omega) | omega)))))
      obtain ⟨_, hs, hA, hP, hoff⟩ := hO.below hb2
      obtain ⟨lo, hlo⟩ : ∃ x, Hid (x = W.heap.size) := ⟨_, rfl⟩
      obtain ⟨hi, hhi⟩ : ∃ x, Hid (x = w1.heap.size) := ⟨_, rfl⟩
      rw [← hlo.out, ← hhi.out] at hA hP
      obtain ⟨g, x, e1, hgW, hx, hc⟩ : ∃ g x, A1 = some ⟨g, 0, none⟩ ∧ (lo ≤ g ∧ g < hi) ∧ hs[k]? = some x ∧ x.n = r.length := by
        obtain ⟨g, T, e1, h1, h2, _⟩ := hA.2 (by omega)
        have hx : hs[k]? = some (hs[k]'(by rw [hA.1]; exact hkn)) := List.getElem?_eq_getElem _
        exact ⟨g, _, e1, ⟨h1, h2⟩, hx, (hP.2.1 k _ r hx HRK.out).2.1.symm⟩
      subst e1
      have hoffk := hoff ⟨g, 0, none⟩ rfl (by omega) k x
      have HX := Lib.hid hx
      clear hx
      obtain ⟨xA, xn, xc⟩ := x
      simp only at hc
      subst hc
      go_wp2_with (go_at_call 49; refine (l01In_any _ _ _ _).mono ?_; rintro e w' ⟨rfl, rfl⟩)
      go_loopw [7] (fun i wr => ∃ j : Nat, j ≤ r.length ∧ i = .int .i64 (j : Int) ∧ Own wr lo hi (some ⟨g, 0, none⟩) n 1 hs hdC ∧ RowsP wr lo hi hs (rows.set k (turned r j)) boolC ∧ Below lo W wr ∧ hi ≤ wr.heap.size) (fun i _ => r.length - (intOf i).toNat)
      case atStart => exact ⟨0, Nat.zero_le _, rfl, hA, by rw [turned_zero, set_same HRK.out]; exact hP, by rw [hlo.out]; exact hB2, by rw [hhi.out]; exact hz2⟩
      case round =>
        obtain ⟨j, hj, rfl, hA, hP, hB, hhz⟩ := hrel
        obtain ⟨bx, ox, x', ee, hgz, hx', hcx⟩ := hA.rd.at1 (v := fun h : Hd => .slice h.A h.n h.c) hkn (Below.refl _ _)
        obtain ⟨rfl, rfl⟩ : g = bx ∧ 0 = ox := by injection ee with ee; injection ee with e1 e2; exact ⟨e1, e2⟩
        rw [HX.out] at hx'
        injection hx' with hx'
        subst hx'
        simp only [Nat.zero_add] at hcx
        clear ee
        by_cases hlt : j < r.length
        · have hsz : k < rows.length := by rw [HLEN.out]; exact hkn
          obtain ⟨g2, eA, hg2, hl2, hh2, _⟩ := hP.store1 HX.out (r := turned r j) (by rw [List.getElem?_set, if_pos rfl, if_pos hsz]) (j := j) hlt
          have eA : xA = some ⟨g2, 0, none⟩ := eA
          subst eA
          have hne : g2 ≠ g := hoffk ⟨g2, 0, none⟩ HX.out rfl (by show 0 < r.length; omega)
          obtain ⟨b, off, A', n', c', r', rfl, hbW, hr', e1, hnc, hrl', hR⟩ := h.at_ hkn (by rw [← hlo.out]; exact hB)
          obtain rfl : r = r' := by rw [HRK.out] at hr'; injection hr'
          obtain ⟨b1, o1, y, rfl, hb1z, hy, hcy⟩ := hR.at1 (v := Value.bool) (k := j) (by omega) (Below.refl _ _)
          have HY := Lib.hid hy
          have hbz : b < wr.heap.size := by have := hlo.out; have := hB.size; omega
          have hn' : n' = r.length := hrl'.symm
          subst hn'
          clear hr' hy hrl'
          go_wp2
          go_still_tail 14, (by kernel_rfl)
          have hA0 := hA.below ((Below.refl wr.heap.size wr).drew)
          have hP0 := hP.below ((Below.refl wr.heap.size wr).drew)
          have hB0 := hB.drew
          have hz0 : hi ≤ (World.drew wr).heap.size := hhz
          change wpList _ _ _ _ _ (World.drew wr)
          generalize World.drew wr = w0 at hA0 hP0 hB0 hz0 ⊢
          obtain ⟨g3, eA, hg3, _, _, ⟨u0, hu0⟩, hf0, hst⟩ := hP0.store1 HX.out (r := turned r j) (by rw [List.getElem?_set, if_pos rfl, if_pos hsz]) (j := j) hlt
          obtain rfl : g2 = g3 := by injection eA with eA; injection eA
          obtain ⟨hs1, hs2⟩ := hst (!y)
          rw [List.set_set, turned_succ HY.out] at hs1
          go_wp2_with fail
          go_roundw
          case rel =>
            exact ⟨j + 1, by omega, by go_num, hA0.only' hs2 (fun q hq _ => by injection hq with hq; injection hq with hq; omega), hs1, hB0.setCell (p := ⟨g2, j, none⟩) hl2 _, by have := hs2.size; omega⟩
          case measure => simp [intOf]; omega
        · go_wp2
          go_ret2
          obtain rfl : j = r.length := by omega
          rw [turned_end (Nat.le_refl _)] at hP
          refine ⟨some ⟨g, 0, none⟩, c1, rfl, hk1, ⟨by rw [List.length_set]; exact HLEN.out, hs, hA.mono (by rw [hlo.out]; exact Nat.le_refl _) hhz, hP.mono (by rw [hlo.out]; exact Nat.le_refl _) hhz, hoff⟩, by rw [← hlo.out]; exact hB⟩

end Go.Proofs.Ytjgjdchnjiaclaa
