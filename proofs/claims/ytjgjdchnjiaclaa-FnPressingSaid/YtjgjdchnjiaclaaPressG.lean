/-
  Contracts of pressing: one row is pressed the other way, as the program does it.
-/
import Derived.Test.YtjgjdchnjiaclaaPressF
set_option linter.unusedVariables false
namespace Go.Proofs.Ytjgjdchnjiaclaa
open Go.RowKit

theorem flipRow_lens (rows : List (List Bool)) (i : Int) : (flipRow rows i).map List.length = rows.map List.length := by
  unfold flipRow
  split
  · rw [List.map_set, List.length_map]
    by_cases h : i.toNat < rows.length
    · refine set_same ?_
      rw [List.getElem?_map, List.getElem?_eq_getElem h, List.getD_eq_getElem?_getD, List.getElem?_eq_getElem h]
      rfl
    · exact List.set_eq_of_length_le (by rw [List.length_map]; omega)
  · rfl

theorem flipI_any (A : Option Addr) (n c : Nat) (rows : List (List Bool)) (i : Int) (W : World) (h : RdSS W A n rows boolC) (hn : n ≤ 1048576) (hr : ∀ r ∈ rows, r.length ≤ 1048576) :
    Calls Try.prog 27 #[.slice A n c, .int .i64 i] W (FlipPost W n (flipRow rows i) (flipOk rows i)) := by
  have hmax : ∀ r ∈ rows, r.length ≤ 9223372036854775807 := fun r hr' => by have := hr r hr'; omega
  have HLEN := Lib.hid h.len
  have hok0 : flipOk rows i = (pressingOk rows && within i 0 ((n : Int) - 1)) := by unfold flipOk; rw [HLEN.out]
  have HOK := Lib.hid hok0
  clear hok0
  go_enter Try.func27, Try.ntmps27
  go_wp2
  go_loopw [6, 13] (fun o i wr => ∃ (k : Nat) (hs : List Hd), k ≤ n ∧ i = .int .i64 (k : Int) ∧ Acc wr W.heap.size 37 1 o hs hdC ∧ RowsP wr W.heap.size wr.heap.size hs (rows.take k) boolC ∧ Apart o hs ∧ Below W.heap.size W wr ∧ W.heap.size ≤ wr.heap.size) (fun _ i _ => n - (intOf i).toNat)
  case atStart => exact ⟨0, [], Nat.zero_le _, rfl, Acc.lit0 W W.heap.size 37 1 hdC (Nat.le_refl _) rfl, RowsP.nil _ _ _ _, Apart.nil _, by (repeat (first | exact Below.refl _ _ | assumption | (refine Below.drew ?_) | (refine below_drewN ?_ _) | (refine Below.alloc ?_ (by first | exact Nat.le_refl _ | (simp; done) | (simp; omega) | omega) _) | (refine Below.setCell ?_ (by first | exact Nat.le_refl _ | (simp; done) | (simp; omega) | omega) _) | (refine Below.trans ?_ (Below.mono (by assumption) (by first | exact Nat.le_refl _ | (simp; done) | (simp; omega) | omega))))), by simp⟩
  case round =>
    obtain ⟨k, hs, hk, rfl, hacc, hrows, hap, hB, hz⟩ := hrel
    by_cases hlt : k < n
    · obtain ⟨b, off, A1, n1, c1, r, rfl, hbW, hr1, e1, hnc, hrl, hR⟩ := h.at_ hlt hB
      have hn1 : n1 ≤ 1048576 := by rw [← hrl]; exact hr r (List.mem_of_getElem? hr1)
      have hbr : b < wr.heap.size := by omega
      have HR := Lib.hid hr1
      have HRL := Lib.hid hrl
      clear hr1 hrl
      obtain ⟨mid, hmid⟩ : ∃ g, Hid (g = wr.heap.size) := ⟨_, rfl⟩
      have hacc0 := Acc.lit0 wr mid 4 1 boolC (Nat.le_of_eq hmid.out) rfl
      have hB0 : Below mid wr (wr.alloc (.cells #[] 4)) := (Below.refl _ _).alloc (Nat.le_of_eq hmid.out) _
      have hz0 : mid ≤ (wr.alloc (.cells #[] 4)).heap.size := by rw [hmid.out]; simp
      have hR0 : Rd (wr.alloc (.cells #[] 4)) A1 n1 1 r boolC := hR.below ((Below.refl _ _).alloc (Nat.le_refl _) _)
      have hl : hs.length = k := by rw [hrows.1, List.length_take]; have := HLEN.out; omega
      go_wp2_with (first | (at_builtin; refine wpList_accs rfl _ _ 37 rfl mid 4 Try.underlying37 infoBool _ [] r rfl hacc0 A1 n1 c1 rfl hR0 (by simp; omega) hz0 ?_; intro v' w3 hacc3 hgrow hat; (rw [List.nil_append] at hacc3); have hB2 := hacc0.grow_below hB0 hgrow (Nat.le_refl _) hz0; have hz2 := Nat.le_trans hz0 hgrow.size; obtain ⟨A', c', rfl, hc', hO⟩ := hacc3.own boolC_len; (rw [HRL.out] at hc' hO ⊢); (rw [hmid.out] at hB2 hO hz2); have hrows2 := (hrows.below hB2).push (x := ⟨A', n1, c'⟩) (r := r) hc' hO hz hz2; (rw [show rows.take k ++ [r] = rows.take (k + 1) by (rw [List.take_add_one, HR.out]; rfl)] at hrows2); have hap2 : Apart _ (hs ++ [⟨A', n1, c'⟩]) := hap.push (x := ⟨A', n1, c'⟩) hO (fun g hg => (hacc.row hg).2); have hacc4 := hacc.below hB2; have hB4 : Below W.heap.size W _ := hB.trans (hB2.mono hz); have hz4 := Nat.le_trans hz hz2) | (at_builtin; refine wpList_acc1 rfl _ _ 22 rfl W.heap.size 37 (.slice none 0 0) 1 24 Try.underlying22 infoBools rfl (by omega) _ _ hdC ⟨A', n1, c'⟩ rfl hacc4 _ _ rfl _ rfl (by simp) rfl (by simp [hdC, Value.oneCell']) (by omega) (by omega) (by omega) ?_; intro v' w5 hacc5 hgrow5 hat5))
      go_roundw
      case rel =>
        have hr3 := hrows2.app hgrow5 hap2
        exact ⟨k + 1, _, by omega, by go_num, hacc5, hr3.mono (Nat.le_refl _) hgrow5.size, hap2.next hat5 hr3 (Nat.le_succ _), hacc4.grow_below hB4 hgrow5 (Nat.le_refl _) hz4, by have := hgrow5.size; omega⟩
      case measure => simp [intOf]; omega
    · obtain rfl : k = n := by omega
      rw [List.take_of_length_le (by have := HLEN.out; omega)] at hrows
      have hms := hacc.madeSS hrows hap hB HLEN.out
      obtain ⟨A1, c1, ev, hk1, hO, _⟩ := hms
      injection ev with ev
      subst ev
      have hok := HOK.out
      rcases hp : pressingOk rows with _ | _
      · rw [hp, Bool.false_and] at hok
        go_wp2_with (go_at_call 16; refine (pressingOkI_any _ _ _ _ _ (h.below hB) hn hmax).mono ?_; rintro e w' ⟨rfl, rfl⟩)
        go_ret2
        rw [flipRow_no hok, hok]
        exact ⟨A1, c1, rfl, hk1, hO, hB⟩
      · rw [hp, Bool.true_and] at hok
        obtain ⟨⟨p1, p2⟩, p3, p4⟩ := pressing_parts hp
        rw [HLEN.out] at p1 p2
        rcases hw : within i 0 ((k : Int) - 1) with _ | _
        · rw [hw] at hok
          go_wp2_with (first | (go_at_call 16; refine (pressingOkI_any _ _ _ _ _ (h.below hB) hn hmax).mono ?_; rintro e w' ⟨rfl, rfl⟩) | (go_at_call 51; refine (within_any _ _ _ _).mono ?_; rintro e w' ⟨rfl, rfl⟩))
          go_ret2
          rw [flipRow_no hok, hok]
          exact ⟨A1, c1, rfl, hk1, hO, hB⟩
        · rw [hw] at hok
          have hw' := within_iff.1 hw
          obtain ⟨q, rfl⟩ := Int.eq_ofNat_of_zero_le hw'.1
          have hkn : q < k := by omega
          obtain ⟨r, hrk⟩ : ∃ r, rows[q]? = some r := ⟨_, List.getElem?_eq_getElem (by rw [HLEN.out]; exact hkn)⟩
          have HRK := Lib.hid hrk
          have HFIN := Lib.hid (flipRow_yes hok hrk)
          have HOK2 := Lib.hid hok
          have hr11 : r.length ≤ 11 := by rw [p4 q r hrk]; exact p3
          clear p4 hrk hok
          obtain ⟨_, hs, hA, hP, hoff⟩ := hO
          obtain ⟨lo, hlo⟩ : ∃ x, Hid (x = W.heap.size) := ⟨_, rfl⟩
          obtain ⟨hi, hhi⟩ : ∃ x, Hid (x = wr.heap.size) := ⟨_, rfl⟩
          rw [← hlo.out, ← hhi.out] at hA hP
          rw [← hlo.out] at hB
          obtain ⟨g, x, e1, hgW, hx, hc⟩ : ∃ g x, A1 = some ⟨g, 0, none⟩ ∧ (lo ≤ g ∧ g < hi) ∧ hs[q]? = some x ∧ x.n = r.length := by
            obtain ⟨g, T, e1, h1, h2, _⟩ := hA.2 (by omega)
            have hx : hs[q]? = some (hs[q]'(by rw [hA.1]; exact hkn)) := List.getElem?_eq_getElem _
            exact ⟨g, _, e1, ⟨h1, h2⟩, hx, (hP.2.1 q _ r hx HRK.out).2.1.symm⟩
          subst e1
          have hoffk := hoff ⟨g, 0, none⟩ rfl (by omega) q x
          have HX := Lib.hid hx
          clear hx
          obtain ⟨xA, xn, xc⟩ := x
          simp only at hc
          subst hc
          obtain ⟨bx, ox, x', ee, hgz, hx', hcx⟩ := hA.rd.at1 (v := fun h : Hd => .slice h.A h.n h.c) hkn (Below.refl _ _)
          obtain ⟨rfl, rfl⟩ : g = bx ∧ 0 = ox := by injection ee with ee; injection ee with e1 e2; exact ⟨e1, e2⟩
          rw [HX.out] at hx'
          injection hx' with hx'
          subst hx'
          simp only [Nat.zero_add] at hcx
          clear ee
          go_wp2_with (first | (go_at_call 16; refine (pressingOkI_any _ _ _ _ _ (h.below (by rw [← hlo.out]; exact hB)) hn hmax).mono ?_; rintro e w' ⟨rfl, rfl⟩) | (go_at_call 51; refine (within_any _ _ _ _).mono ?_; rintro e w' ⟨rfl, rfl⟩))
          go_loopw [41] (fun i wr => ∃ j : Nat, j ≤ r.length ∧ i = .int .i64 (j : Int) ∧ Own wr lo hi (some ⟨g, 0, none⟩) k 1 hs hdC ∧ RowsP wr lo hi hs (rows.set q (turned r j)) boolC ∧ Below lo W wr ∧ hi ≤ wr.heap.size) (fun i _ => r.length - (intOf i).toNat)
          case atStart => exact ⟨0, Nat.zero_le _, rfl, hA, by rw [turned_zero, set_same HRK.out]; exact hP, hB, by rw [hhi.out]; exact Nat.le_refl _⟩
          case round =>
            clear hA hP hB hcx hgz
            obtain ⟨j, hj, rfl, hA, hP, hB, hhz⟩ := hrel
            by_cases hlt : j < r.length
            · obtain ⟨bx, ox, x', ee, hgz, hx', hcx⟩ := hA.rd.at1 (v := fun h : Hd => .slice h.A h.n h.c) hkn (Below.refl _ _)
              obtain ⟨rfl, rfl⟩ : g = bx ∧ 0 = ox := by injection ee with ee; injection ee with e1 e2; exact ⟨e1, e2⟩
              rw [HX.out] at hx'
              injection hx' with hx'
              subst hx'
              simp only [Nat.zero_add] at hcx
              clear ee
              have hsz : q < rows.length := by rw [HLEN.out]; exact hkn
              have hrt : (rows.set q (turned r j))[q]? = some (turned r j) := by rw [List.getElem?_set, if_pos rfl, if_pos hsz]
              obtain ⟨g2, eA, hg2, hl2, hh2, _⟩ := hP.store1 HX.out hrt (j := j) hlt
              have eA : xA = some ⟨g2, 0, none⟩ := eA
              subst eA
              have hne : g2 ≠ g := hoffk ⟨g2, 0, none⟩ HX.out rfl (by show 0 < r.length; omega)
              obtain ⟨b1, o1, y, ey, hb1z, hy, hcy⟩ := (hP.2.1 q _ _ HX.out hrt).2.rd.at1 (v := Value.bool) hlt (Below.refl _ _)
              obtain ⟨rfl, rfl⟩ : g2 = b1 ∧ 0 = o1 := by injection ey with ey; injection ey with e1 e2; exact ⟨e1, e2⟩
              simp only [Nat.zero_add] at hcy
              have HY := Lib.hid (show r[j]? = some y by
                have h0 : r[j]? = some (r[j]'hlt) := List.getElem?_eq_getElem _
                have h1 := turned_at h0
                rw [h1] at hy
                rw [h0]; exact hy)
              have HRT := Lib.hid hrt
              clear hy ey hrt
              go_wp2
              go_still_tail 14, (by kernel_rfl)
              have hA0 := hA.below ((Below.refl wr.heap.size wr).drew)
              have hP0 := hP.below ((Below.refl wr.heap.size wr).drew)
              have hB0 := hB.drew
              have hz0 : hi ≤ (World.drew wr).heap.size := hhz
              change wpList _ _ _ _ _ (World.drew wr)
              generalize World.drew wr = w0 at hA0 hP0 hB0 hz0 ⊢
              obtain ⟨g3, eA, hg3, _, _, ⟨u0, hu0⟩, hf0, hst⟩ := hP0.store1 HX.out HRT.out (j := j) hlt
              obtain rfl : g2 = g3 := by injection eA with eA; injection eA
              obtain ⟨hs1, hs2⟩ := hst (!y)
              rw [List.set_set, turned_succ HY.out] at hs1
              go_wp2_with fail
              go_roundw
              case rel =>
                exact ⟨j + 1, by omega, by go_num, hA0.only' hs2 (fun q hq _ => by injection hq with hq; injection hq with hq; omega), hs1, hB0.setCell (p := ⟨g2, j, none⟩) hl2 _, by have := hs2.size; omega⟩
              case measure => simp [intOf]; omega
            · go_wp2
              go_ret2
              obtain rfl : j = r.length := by omega
              rw [turned_end (Nat.le_refl _)] at hP
              rw [HFIN.out, HOK2.out]
              refine ⟨some ⟨g, 0, none⟩, c1, rfl, hk1, ⟨by rw [List.length_set]; exact HLEN.out, hs, hA.mono (by rw [hlo.out]; exact Nat.le_refl _) hhz, hP.mono (by rw [hlo.out]; exact Nat.le_refl _) hhz, hoff⟩, by rw [← hlo.out]; exact hB⟩

end Go.Proofs.Ytjgjdchnjiaclaa
