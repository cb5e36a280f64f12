/-
  A drawn pressing.
-/
import Derived.Test.YtjgjdchnjiaclaaDrawA
import Derived.Test.YtjgjdchnjiaclaaPressD
import Derived.Test.YtjgjdchnjiaclaaPressG
import Derived.Test.YtjgjdchnjiaclaaPlainQ
set_option linter.unusedVariables false
namespace Go.Proofs.Ytjgjdchnjiaclaa
open Go.RowKit

def PressOut (W0 : World) (g : Nat) (A : Option Addr) (n : Nat) (xs : List UInt8) (e : Ending) (w' : World) : Prop :=
  ∃ (A' : Option Addr) (nR c' : Nat) (rows : List (List Bool)) (lo hi : Nat), e = .returned (.slice A' nR c') ∧ nR ≤ c' ∧ 1 ≤ nR ∧ nR ≤ 6 ∧ OwnSS w' lo hi A' nR rows boolC ∧ pressingOk rows = true ∧ head0 rows ≤ 5 ∧ Cur W0 w' g A n xs

theorem set_bit_valid {rows : List (List Bool)} (h : pressingOk rows = true) {i j : Nat} {r : List Bool} (hr : rows[i]? = some r) (b : Bool) : pressingOk (rows.set i (r.set j b)) = true ∧ head0 (rows.set i (r.set j b)) = head0 rows := by
  obtain ⟨⟨h1, h2⟩, h3, h4⟩ := pressing_parts h
  refine pressing_of (by rw [List.length_set]; exact h1) (by rw [List.length_set]; exact h2) h3 fun k q hq => ?_
  rw [List.getElem?_set] at hq
  by_cases e : i = k
  · subst e
    rw [if_pos rfl, if_pos (List.getElem?_eq_some_iff.1 hr).1] at hq
    injection hq with hq
    subst hq
    rw [List.length_set]
    exact h4 i r hr
  · rw [if_neg e] at hq
    exact h4 k q hq

set_option maxRecDepth 100000 in
set_option maxHeartbeats 1000000 in
theorem l13Press_any (W0 : World) (g : Nat) (A : Option Addr) (n : Nat) (xs : List UInt8) (W : World) (hC : Cur W0 W g A n xs) :
    Calls Try.prog 56 #[.pointer (some ⟨g, 0, none⟩)] W (PressOut W0 g A n xs) := by
  go_enter Try.func56, Try.ntmps56
  go_wp2_with fail
  refine (l01Below_any W0 g A n xs 6 _ hC (by omega)).mono ?_
  rintro e w1 ⟨x, rfl, hx, hC1, ho1⟩
  have hx0 := hx.1
  have hx1 := hx.2.1 (by omega)
  obtain ⟨a, rfl⟩ := Int.eq_ofNat_of_zero_le hx0
  go_wp2_with fail
  refine (l01Below_any W0 g A n xs 6 _ hC1 (by omega)).mono ?_
  rintro e w2 ⟨y, rfl, hy, hC2, ho2⟩
  have hy0 := hy.1
  have hy1 := hy.2.1 (by omega)
  obtain ⟨b, rfl⟩ := Int.eq_ofNat_of_zero_le hy0
  clear hx hy
  have ha5 : a ≤ 5 := by omega
  have hb5 : b ≤ 5 := by omega
  go_wp2_with fail
  refine (l01Once_any W0 g A n xs 2 _ hC2 (by omega)).mono ?_
  rintro e w3 ⟨up, rfl, hC3, ho3⟩
  have hg3 := hC3.lt
  go_wp2_with fail
  refine (nestedS_any _ _ up w3).mono ?_
  rintro e w4 ⟨A4, c4, rfl, hc4, hO4, hb4⟩
  have HV := nest_valid (n := a + 1) (m := b) (by omega) (by omega) (by omega) up
  have HL := nest_len (n := a + 1) (m := b) (by omega) (by omega) (by omega) up
  rw [show ((a + 1 : Nat) : Int) = 1 + (a : Int) by omega] at HV HL
  rw [HL] at hc4 hO4 ⊢
  have hC4 := hC3.below hb4
  generalize nested (1 + (a : Int)) (b : Int) up = rows0 at HV HL hO4
  obtain ⟨hV0, hH0⟩ := HV
  obtain ⟨lo, hlo⟩ : ∃ x, Hid (x = w3.heap.size) := ⟨_, rfl⟩
  obtain ⟨hi, hhi⟩ : ∃ x, Hid (x = w4.heap.size) := ⟨_, rfl⟩
  rw [← hlo.out, ← hhi.out] at hO4
  have hglo : g < lo := by rw [hlo.out]; exact hg3
  have hhi4 : hi ≤ w4.heap.size := by rw [hhi.out]; exact Nat.le_refl _
  clear ho1 ho2 ho3 hC1 hC2 hC3 hC hb4 hg3 hx0 hx1 hy0 hy1
  go_wp2_with fail
  refine (l01Below_any W0 g A n xs 8 _ hC4 (by omega)).mono ?_
  rintro e w5 ⟨z, rfl, hz, hC5, ho5⟩
  have hz0 := hz.1
  have hz1 := hz.2.1 (by omega)
  obtain ⟨q, rfl⟩ := Int.eq_ofNat_of_zero_le hz0
  have hO5 := hO4.only ho5 (.inr (by omega))
  have hhi5 : hi ≤ w5.heap.size := Nat.le_trans hhi4 ho5.size
  obtain ⟨hL5, hs, hA5, hP5, hoff⟩ := hO5
  have hq7 : q ≤ 7 := by omega
  clear hz hz0 hz1 hO4 hC4 ho5 hhi4
  go_wp2_with fail
  go_loopw [6] (fun i wr => ∃ (k : Nat) (rows : List (List Bool)), k ≤ 7 ∧ i = .int .i64 (k : Int) ∧ Own wr lo hi A4 (a + 1) 1 hs hdC ∧ RowsP wr lo hi hs rows boolC ∧ pressingOk rows = true ∧ head0 rows = b ∧ rows.length = a + 1 ∧ Cur W0 wr g A n xs ∧ hi ≤ wr.heap.size) (fun i _ => (intOf i).toNat)
  case atStart => exact ⟨q, rows0, hq7, rfl, hA5, hP5, hV0, hH0, HL, hC5, hhi5⟩
  case round =>
    clear hA5 hP5 hV0 hH0 HL hC5 hhi5 hL5
    obtain ⟨k, rows, hk, rfl, hA, hP, hV, hH, hL, hC, hhz⟩ := hrel
    by_cases hk0 : k = 0
    · subst hk0
      go_wp2
      go_ret
      exact ⟨A4, a + 1, c4, rows, lo, hi, rfl, hc4, by omega, by omega, ⟨hL, hs, hA, hP, hoff⟩, hV, by omega, hC⟩
    · by_cases hb0 : b = 0
      · subst hb0
        have hkp : (0 : Int) < (k : Int) := by omega
        go_wp2
        go_ret
        exact ⟨A4, a + 1, c4, rows, lo, hi, rfl, hc4, by omega, by omega, ⟨hL, hs, hA, hP, hoff⟩, hV, by omega, hC⟩
      · have hkp : (0 : Int) < (k : Int) := by omega
        have hbp : (0 : Int) < (b : Int) := by omega
        go_wp2_with fail
        refine (l01Below_any W0 g A n xs _ _ hC (by omega)).mono ?_
        rintro e w6 ⟨u, rfl, hu, hC6, ho6⟩
        have hu0 := hu.1
        have hu1 := hu.2.1 (by omega)
        obtain ⟨i, rfl⟩ := Int.eq_ofNat_of_zero_le hu0
        have hA6 := hA.only ho6 (.inr (by omega))
        have hP6 := hP.only ho6 (.inr (by omega))
        have hhz6 : hi ≤ w6.heap.size := Nat.le_trans hhz ho6.size
        clear hu hA hP hC ho6 hhz hu0
        go_wp2_with fail
        refine (l01Below_any W0 g A n xs _ _ hC6 (by omega)).mono ?_
        rintro e w7 ⟨v, rfl, hv, hC7, ho7⟩
        have hv0 := hv.1
        have hv1 := hv.2.1 (by omega)
        obtain ⟨j, rfl⟩ := Int.eq_ofNat_of_zero_le hv0
        have hA7 := hA6.only ho7 (.inr (by omega))
        have hP7 := hP6.only ho7 (.inr (by omega))
        have hhz7 : hi ≤ w7.heap.size := Nat.le_trans hhz6 ho7.size
        have hia : i < a + 1 := by omega
        have hjb : j < b := by omega
        have hii : (i : Int) < (a : Int) + 1 := by omega
        clear hv hA6 hP6 hC6 ho7 hhz6 hv0 hu1 hv1
        obtain ⟨r, hr, hrl⟩ := row_at hV (show i < rows.length by omega)
        obtain ⟨gA, TA, eA, hgl, hgh, hPA⟩ := hA7.2 (by omega)
        subst eA
        obtain ⟨bx, ox, x, ee, hgz, hx, hcx⟩ := hA7.rd.at1 (v := fun h : Hd => .slice h.A h.n h.c) hia (Below.refl _ _)
        obtain ⟨rfl, rfl⟩ : gA = bx ∧ 0 = ox := by injection ee with ee; injection ee with e1 e2; exact ⟨e1, e2⟩
        clear ee
        simp only [Nat.zero_add] at hcx
        have hxn : x.n = r.length := (hP7.2.1 i x r hx hr).2.1.symm
        obtain ⟨xA, xn, xc⟩ := x
        simp only at hxn hcx
        subst hxn
        have hjr : j < r.length := by omega
        obtain ⟨g2, eA, hg2, hl2, hh2, ⟨u0, hu0⟩, hf0, hst⟩ := hP7.store1 hx hr (j := j) hjr
        have eA : xA = some ⟨g2, 0, none⟩ := eA
        subst eA
        have hne : g2 ≠ gA := hoff ⟨gA, 0, none⟩ rfl (by omega) i _ ⟨g2, 0, none⟩ hx rfl (by show 0 < r.length; omega)
        obtain ⟨y, hy⟩ : ∃ y, r[j]? = some y := ⟨_, List.getElem?_eq_getElem hjr⟩
        obtain ⟨b1, o1, y', ey, hb1z, hy', hcy⟩ := (hP7.2.1 i _ r hx hr).2.rd.at1 (v := Value.bool) hjr (Below.refl _ _)
        obtain ⟨rfl, rfl⟩ : g2 = b1 ∧ 0 = o1 := by injection ey with ey; injection ey with e1 e2; exact ⟨e1, e2⟩
        obtain rfl : y = y' := by rw [hy] at hy'; injection hy'
        simp only [Nat.zero_add] at hcy
        obtain ⟨hs1, hs2⟩ := hst (!y)
        obtain ⟨hV2, hH2⟩ := set_bit_valid hV hr (j := j) (!y)
        have HV2 := Lib.hid hV2
        have HH2 := Lib.hid (hH2.trans hH)
        have HR := Lib.hid hr
        rw [hrl] at hcx
        rw [hH] at hcx
        have hji : (j : Int) < (b : Int) := by omega
        have hC8 := hC7.only hs2 (.inl (by omega)) (by have := hC7.le; omega)
        clear hV2 hH2 hx hy hy' ey hu0 hst hr hb1z
        go_wp2
        go_still_tail 14, (by kernel_rfl)
        change wpList _ _ _ _ _ (World.drew w7)
        have hfz : (World.drew w7).frozen? ⟨g2, j, none⟩ = false := hf0
        have hcy' : (World.drew w7).cell? ⟨g2, j, none⟩ = some (.bool y) := hcy
        go_wp2_with fail
        go_roundw
        case rel =>
          have hbd : Below (w7.setCell ⟨g2, j, none⟩ (.bool !y)).heap.size (w7.setCell ⟨g2, j, none⟩ (.bool !y)) (w7.setCell ⟨g2, j, none⟩ (.bool !y)).drew := (Below.refl _ _).drew
          refine ⟨k - 1, _, by omega, num_eq (by omega), ?_, ?_, HV2.out, HH2.out, by rw [List.length_set]; exact hL, ?_, ?_⟩
          · exact (hA7.only' hs2 (fun q hq _ => by injection hq with hq; injection hq with hq; omega)).below hbd
          · exact hs1.below hbd
          · exact hC8.below hbd
          · exact Nat.le_trans hhz7 hs2.size
        case measure => simp [intOf]; omega

def PressDrawn (W : World) (e : Ending) (w' : World) : Prop :=
  ∃ (A' : Option Addr) (nR c' : Nat) (rows : List (List Bool)), e = .returned (.slice A' nR c') ∧ nR ≤ c' ∧ 1 ≤ nR ∧ nR ≤ 6 ∧ RdSS w' A' nR rows boolC ∧ pressingOk rows = true ∧ head0 rows ≤ 5 ∧ Below W.heap.size W w'
theorem drawPressing_any (A : Option Addr) (n c : Nat) (xs : List UInt8) (W : World) (hR : Rd W A n 1 xs byteC) (hn : n ≤ 1048576) :
    Calls Try.prog 29 #[.slice A n c] W (PressDrawn W) := by
  go_enter Try.func29, Try.ntmps29
  go_wp2_with fail
  refine (l01New_any A n c xs _ hR hn).mono ?_
  rintro e w1 ⟨g, rfl, hC1⟩
  go_wp2_with fail
  refine (l13Press_any _ _ A n xs _ hC1).mono ?_
  rintro e w2 ⟨A', nR, c', rows, lo, hi, rfl, h1, h2, h3, hO, hV, hH, hC2⟩
  have hb := hC2.base
  go_wp2_with fail
  go_ret
  exact ⟨A', nR, c', rows, rfl, h1, h2, h3, hO.rd, hV, hH, hb⟩

/-- The bit at row i and seam j, where it lies. -/
theorem RdSS.bit_at {w w' : World} {A : Option Addr} {n : Nat} {rows : List (List Bool)} (h : RdSS w A n rows boolC) (hv : pressingOk rows = true) {m : Nat} (hm : head0 rows = m) {i j : Nat} (hi : i < n) (hj : j < m) (hb : Below w.heap.size w w') :
    ∃ b off b2 o2 c, A = some ⟨b, off, none⟩ ∧ w'.cell? ⟨b, off + i, none⟩ = some (.slice (some ⟨b2, o2, none⟩) m c) ∧ w'.cell? ⟨b2, o2 + j, none⟩ = some (.bool (bit rows i j)) := by
  obtain ⟨b, off, A1, n1, c1, r, rfl, hbW, hr1, e1, hnc, hrl, hR⟩ := h.at_ hi hb
  have hl := (pressing_parts hv).2.2 i r hr1
  obtain rfl : n1 = m := by omega
  obtain ⟨b2, o2, x, rfl, _, hx, hc⟩ := hR.at1 (v := Value.bool) hj (Below.refl _ _)
  exact ⟨b, off, b2, o2, c1, rfl, e1, by rw [bit_eq hr1 hx]; exact hc⟩
theorem RdSS.head_at {w w' : World} {A : Option Addr} {n : Nat} {rows : List (List Bool)} (h : RdSS w A n rows boolC) (hv : pressingOk rows = true) {m : Nat} (hm : head0 rows = m) {i : Nat} (hi : i < n) (hb : Below w.heap.size w w') :
    ∃ b off A1 c, A = some ⟨b, off, none⟩ ∧ w'.cell? ⟨b, off + i, none⟩ = some (.slice A1 m c) := by
  obtain ⟨b, off, A1, n1, c1, r, rfl, hbW, hr1, e1, hnc, hrl, hR⟩ := h.at_ hi hb
  have hl := (pressing_parts hv).2.2 i r hr1
  obtain rfl : n1 = m := by omega
  exact ⟨b, off, A1, c1, rfl, e1⟩

end Go.Proofs.Ytjgjdchnjiaclaa
