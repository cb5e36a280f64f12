/-
  The walk of the law: joins can be sewn in the order in which they are written, and in rounds.
-/
import Derived.Test.YtmjdgplkcocgmaaDrawJ
import Derived.Test.YtmjdgplkcocgmaaSewM
import Derived.Test.YtmjdgplkcocgmaaCntA
import Derived.Test.YtmjdgplkcocgmaaChnC
import Derived.Test.YtmjdgplkcocgmaaOrdB
import Derived.Test.YtmjdgplkcocgmaaDepA
set_option linter.unusedVariables false
set_option linter.unusedSimpArgs false
namespace Go.Proofs.Ytmjdgplkcocgmaa
open Go.RowKit

theorem flat_succ {rs : List (List Int)} {k : Nat} {r : List Int} (h : rs[k]? = some r) : (rs.take (k + 1)).flatten = (rs.take k).flatten ++ r := by
  rw [List.take_add_one, h, List.flatten_append]
  simp
theorem flat_lens (rs : List (List Int)) : rs.flatten.length = lens rs := by
  unfold lens
  rw [List.length_flatten]
theorem intC_one (y : Int) : ∀ u ∈ intC y, u.oneCell' = true := fun u hu => by
  simp [intC] at hu
  subst hu
  rfl
def sixJ : List Join := [⟨false, 0, 1⟩, ⟨false, 2, 3⟩, ⟨false, 4, 5⟩]
theorem rd_six (w : World) (T : TypeId) : Rd (w.alloc (.cells #[.bool false, .int .i64 0, .int .i64 1, .bool false, .int .i64 2, .int .i64 3, .bool false, .int .i64 4, .int .i64 5] T)) (some ⟨w.heap.size, 0, none⟩) 3 3 sixJ joinC := by
  refine ⟨rfl, fun _ => ⟨w.heap.size, 0, rfl, by simp, fun i x j u hx hu => ?_⟩⟩
  rw [cell_of_row _ _ _ _ _ _ (heap_alloc_new w _)]
  have hi : i < 3 := (List.getElem?_eq_some_iff.1 hx).1
  have hj : j < 3 := (List.getElem?_eq_some_iff.1 hu).1
  have h3 : i = 0 ∨ i = 1 ∨ i = 2 := by omega
  have h4 : j = 0 ∨ j = 1 ∨ j = 2 := by omega
  rcases h3 with rfl | rfl | rfl <;> rcases h4 with rfl | rfl | rfl <;> (simp [sixJ] at hx; subst hx; simp [joinC] at hu; subst hu; rfl)

set_option maxRecDepth 100000 in
set_option maxHeartbeats 40000000 in
theorem walk_FnSewing (A0 : Option Addr) (n0 c0 : Nat) (xs0 : List UInt8) (W : World) (hk0_ : n0 ≤ c0) (hm0_ : c0 ≤ maxLen) (hR0 : Rd W A0 n0 1 xs0 byteC) :
    Calls Try.prog 14 #[.slice A0 n0 c0] W fun e w' => e = .returned (.bool true) ∧ Below W.heap.size W w' := by
  have hn63 : n0 ≤ 9223372036854775807 := by unfold maxLen at hm0_; omega
  rcases Nat.lt_or_ge 1048576 n0 with hn0 | hn0
  · have hbig : decide ((1048576 : Int) < n0) = true := by simpa using (by omega : (1048576 : Int) < n0)
    go_enter Try.func14, Try.ntmps14
    go_wp2_with fail
    refine (big_any A0 n0 c0 _ hn63).mono ?_
    rintro e w' ⟨rfl, rfl⟩
    go_wp2_with fail
    go_ret
    exact ⟨rfl, by (repeat (first | exact Below.refl _ _ | assumption | (refine Below.drew ?_) | (refine below_drewN ?_ _) | (refine Below.alloc ?_ (by first | exact Nat.le_refl _ | (simp; done) | (simp; omega) | omega) _) | (refine Below.setCell ?_ (by first | exact Nat.le_refl _ | (simp; done) | (simp; omega) | omega) _) | (refine Below.trans ?_ (Below.mono (by assumption) (by first | exact Nat.le_refl _ | (simp; done) | (simp; omega) | omega)))))⟩
  have hbig : decide ((1048576 : Int) < n0) = false := by simpa using (by omega : ¬ (1048576 : Int) < n0)
  go_enter Try.func14, Try.ntmps14
  go_wp2_with fail
  refine (big_any A0 n0 c0 _ hn63).mono ?_
  rintro e w' ⟨rfl, rfl⟩
  go_wp2_with fail
  refine (drawJoins_any A0 n0 c0 xs0 _ hR0 hn0).mono ?_
  rintro e w1 ⟨A, m, cq, js, n, rfl, hmc, hR1, ⟨ht, hdep⟩, hb1⟩
  have HLEN := Lib.hid hR1.len
  obtain ⟨hn12, hml, _, _⟩ := tree_parts ht
  rw [HLEN.out] at hml
  have hm11 : m ≤ 11 := by omega
  have hm20 : m ≤ 1048576 := by omega
  have HT := Lib.hid ht
  have HML := Lib.hid hml; have HN12 := Lib.hid hn12; clear hml hn12
  have hcnt := count_ge ht
  obtain ⟨CO, hCO⟩ : ∃ x, Hid (countOrders js n = x) := ⟨_, rfl⟩
  rw [hCO.out] at hcnt
  have HF := Lib.hid (show firstOrder js n = iota m by rw [← HLEN.out]; exact first_yes ht)
  have HIO := Lib.hid (show isOrder js n (iota m) = true by rw [← HLEN.out]; exact iota_order ht)
  obtain ⟨rs, hrs⟩ : ∃ rs, Hid (chainRounds js n = rs) := ⟨_, rfl⟩
  have hsm := chain_small js n
  have hfl := chain_len ht
  have hco2 := chain_order ht
  rw [hrs.out] at hsm hfl hco2 hdep
  rw [HLEN.out, flat_lens] at hfl
  have HDEP := Lib.hid hdep; have HFL := Lib.hid hfl; have HCO2 := Lib.hid hco2; have HSM := Lib.hid hsm
  have hrs11 := hsm.1
  clear ht hdep hfl hco2 hsm hR0
  go_wp2_with fail
  refine (countI_any A m cq js n _ hR1 hm20).mono ?_
  rintro e w2 ⟨rfl, hb2⟩
  rw [hCO.out]
  have hB2 := hb1.trans (hb2.mono hb1.size)
  have hR2 := hR1.below hb2
  clear hb1 hb2 hR1
  go_wp2_with fail
  refine (firstI_any A m cq js n _ hR2 hm20).mono ?_
  rintro e w3 ⟨A3, c3, rfl, hc3, hO3, hb3⟩
  rw [HF.out, iota_len] at hO3 hc3 ⊢
  have hB3 := hB2.trans (hb3.mono hB2.size)
  have hR3 := hR2.below hb3
  have hN3 := hO3.rd
  clear hb3 hB2 hR2 hO3
  go_wp2_with fail
  refine (chainI_any A m cq js n _ hR3 hm20).mono ?_
  rintro e w4 ⟨A4, c4, rfl, hc4, hO4, hb4⟩
  rw [hrs.out] at hO4 hc4 ⊢
  have hB4 := hB3.trans (hb4.mono hB3.size)
  have hR4 := hR3.below hb4
  have hN4 := hN3.below hb4
  have hS4 := hO4.rd
  clear hb4 hB3 hR3 hN3 hO4
  obtain ⟨R, hR⟩ : ∃ x, Hid (rs.length = x) := ⟨_, rfl⟩
  rw [hR.out] at hrs11 hS4 hc4 ⊢
  have hcnt' : ¬ CO < 1 := by omega
  go_wp2_with fail
  refine (orderI_any A m cq js n A3 m c3 (iota m) _ hR4 hm20 hN4 hm20 hc3).mono ?_
  rintro e w5 ⟨rfl, hb5⟩
  rw [HIO.out]
  have hB5 := hB4.trans (hb5.mono hB4.size)
  have hR5 := hR4.below hb5
  have hN5 := hN4.below hb5
  have hS5 := hS4.below hb5
  clear hb5 hB4 hR4 hN4 hS4
  go_wp2_with fail
  refine (depthS_any A m cq js n _ hR5 hm20).mono ?_
  rintro e w6 ⟨rfl, hb6⟩
  rw [← HDEP.out, hR.out]
  have hB6 := hB5.trans (hb6.mono hB5.size)
  have hR6 := hR5.below hb6
  have hN6 := hN5.below hb6
  have hS6 := hS5.below hb6
  have hs6 := hB6.size
  clear hb6 hB5 hR5 hN5 hS5
  obtain ⟨w7, hw7⟩ : ∃ v, Hid (w6.alloc (.cells #[] 3) = v) := ⟨_, rfl⟩
  obtain ⟨z6, hz6⟩ : ∃ j, Hid (w6.heap.size = j) := ⟨_, rfl⟩
  have hac0 : Acc w7 z6 3 1 (.slice (some ⟨z6, 0, none⟩) 0 0) ([] : List Int) intC := by rw [← hw7.out]; exact Acc.lit0 w6 z6 _ 1 intC (Nat.le_of_eq hz6.out.symm) hz6.out.symm
  have b7 : Below w6.heap.size w6 w7 := by rw [← hw7.out]; exact (Below.refl _ _).alloc (Nat.le_refl _) _
  have hz7 : z6 ≤ w7.heap.size := by have := b7.size; have := hz6.out; omega
  have hz6e : w6.heap.size ≤ z6 := Nat.le_of_eq hz6.out
  go_wp2_with fail
  rw [hw7.out, hz6.out]
  go_loopw [8, 9, 10, 11] (fun s8 s9 s10 i wr => ∃ (k : Nat) (va : Value), k ≤ R ∧ i = .int .i64 (k : Int) ∧ s8 = .int .i64 (lens (rs.take k) : Int) ∧ s9 = .int .i64 (mostUp (rs.take k)) ∧ va = s10 ∧ Acc wr z6 3 1 va (rs.take k).flatten intC ∧ Below w6.heap.size w6 wr ∧ z6 ≤ wr.heap.size) (fun _ _ _ i _ => R - (intOf i).toNat)
  case atStart => exact ⟨0, _, Nat.zero_le _, rfl, rfl, rfl, rfl, hac0, b7, hz7⟩
  case round =>
    clear hac0 b7 hz7
    obtain ⟨k, va, hk, rfl, rfl, rfl, rfl, hacc, hB, hzr⟩ := hrel
    have hz := hB.size
    by_cases hlt : k < R
    · obtain ⟨b, off, A', n', c', r, rfl, hbW, hr, g0, hnc, hrn, hrR⟩ := hS6.at_ hlt hB
      have hrl := HSM.out.2 r (List.mem_of_getElem? hr)
      have hbd := mostUp_bd (rs := rs.take k) fun r hr => HSM.out.2 r (List.mem_of_mem_take hr)
      have HS := Lib.hid (mostUp_succ hr)
      have HFS := Lib.hid (flat_succ hr)
      have HLS := Lib.hid (lens_take_succ hr)
      have hll := lens_at hr
      rw [HFL.out] at hll
      have hfl : (rs.take k).flatten.length + r.length ≤ 4294967296 := by rw [flat_lens]; omega
      subst hrn
      clear hr
      generalize mostUp (rs.take k) = mu at hbd HS
      obtain ⟨ln, hln⟩ : ∃ x, Hid (lens (rs.take k) = x) := ⟨_, rfl⟩
      rw [hln.out] at hll HLS ⊢
      obtain ⟨mx, hmx⟩ : ∃ mx, (if mu < (r.length : Int) then (r.length : Int) else mu) = mx := ⟨_, rfl⟩
      have HM := Lib.hid (show mx = mostUp (rs.take (k + 1)) by rw [HS.out, ← hmx]; split <;> omega)
      have hRr : Rd wr A' r.length 1 r intC := by first | exact hrR | exact hrR.below hB
      go_wp2_with (at_builtin; refine wpList_accsG rfl _ _ 42 rfl z6 3 (.int .i64 0) 1 8 Try.underlying42 infoIntA rfl (by omega) _ (rs.take k).flatten r intC (fun _ => rfl) intC_one rfl hacc A' r.length c' rfl hRr hfl (by omega) hzr ?_; intro v5 u5 hacc5 hgrow5 hat5; have hB5 := hacc.grow_below hB hgrow5 hz6e hz)
      go_roundw
      case rel => exact ⟨k + 1, _, by omega, by go_num, num_eq (by rw [HLS.out]; omega), by rw [HM.out], rfl, by rw [HFS.out]; exact hacc5, hB5, Nat.le_trans hzr hgrow5.size⟩
      case measure => simp [intOf]; omega
    · obtain rfl : R = k := by omega
      have htk : rs.take R = rs := by rw [← hR.out, List.take_length]
      rw [htk] at hacc ⊢
      rw [HFL.out]
      obtain ⟨OA, oc, rfl, hoc, hOO⟩ := hacc.own (fun _ => rfl)
      have hfln : rs.flatten.length = m := by rw [flat_lens]; exact HFL.out
      rw [hfln] at hoc hOO ⊢
      have hRO := hOO.rd
      have hBr := hB6.trans (hB.mono hs6)
      have hRr := hR6.below hB; have hNr := hN6.below hB
      have hszr := hBr.size
      have HMU := Lib.hid (show mostUp rs = mostChained js n by unfold mostChained; rw [hrs.out])
      obtain ⟨MU, hMU⟩ : ∃ x, Hid (mostUp rs = x) := ⟨_, rfl⟩
      rw [hMU.out] at HMU ⊢
      clear hacc hOO hfln htk hR6 hN6 hB6 hB hz hzr hk hlt
      rcases Nat.lt_or_ge 1 m with hm2 | hm2
      · have h0 : js[0]? = some (js[0]'(by rw [HLEN.out]; omega)) := List.getElem?_eq_getElem _
        obtain ⟨bj, oj, x1, eA, hbj, hx1, j0, j1, j2⟩ := hRr.join (k := 1) hm2 (Below.refl _ _)
        subst eA
        obtain ⟨up1, a1, b1⟩ := x1
        simp only at j0 j1 j2
        have HX1 := Lib.hid (joinAt_at (i := 1) hx1)
        have HSW := Lib.hid (show isOrder js n (swapped m) = freeB js n by have := swap_order HT.out (by rw [HLEN.out]; omega); rw [HLEN.out] at this; exact this)
        have HFB := Lib.hid (show freeB js n = (a1 != n && b1 != n) by unfold freeB; have e := HX1.out; rw [show ((1 : Nat) : Int) = 1 from rfl] at e; rw [e])
        have HC2 := Lib.hid (fun h => count_two HT.out (by rw [HLEN.out]; omega) h)
        obtain ⟨bo, oo, y1, eO, hbo, hy1, gy1⟩ := hNr.int (k := 1) hm2 (Below.refl _ _)
        subst eO
        obtain ⟨bo', oo', y0, eO, _, hy0, gy0⟩ := hNr.int (k := 0) (by omega) (Below.refl _ _)
        injection eO with eO; injection eO with eO eO2; subst eO; subst eO2
        rw [Nat.add_zero] at gy0
        rw [iota_at (by omega)] at hy1 hy0
        obtain rfl : (1 : Int) = y1 := by injection hy1
        obtain rfl : (0 : Int) = y0 := by injection hy0
        have hm2I : (1 : Int) < (m : Int) := by omega
        have hm0I : (0 : Int) < (m : Int) := by omega
        clear hx1 hy1 hy0 h0
        obtain ⟨w8, hw8⟩ : ∃ v, Hid (wr.alloc (.cells #[] 3) = v) := ⟨_, rfl⟩
        obtain ⟨z8, hz8⟩ : ∃ j, Hid (wr.heap.size = j) := ⟨_, rfl⟩
        have hacX : Acc w8 z8 3 1 (.slice (some ⟨z8, 0, none⟩) 0 0) ([] : List Int) intC := by rw [← hw8.out]; exact Acc.lit0 wr z8 _ 1 intC (Nat.le_of_eq hz8.out.symm) hz8.out.symm
        have b8 : Below wr.heap.size wr w8 := by rw [← hw8.out]; exact (Below.refl _ _).alloc (Nat.le_refl _) _
        have hz88 : z8 ≤ w8.heap.size := by have := b8.size; have := hz8.out; omega
        have hz8e : wr.heap.size ≤ z8 := Nat.le_of_eq hz8.out
        have hN8 := hNr.below b8
        have hbo8 : bo < z8 := by rw [← hz8.out]; exact hbo
        by_cases ha : a1 = n
        · have ha' := ha.symm; subst ha'
          have HV := Lib.hid (show freeB js n = false by rw [HFB.out]; simp)
          go_wp2_with (first | (rw [hw8.out]; (try rw [hz8.out])) | rw [hu10.out] | rw [hu11.out] | (at_builtin; refine wpList_accsG rfl _ _ 42 rfl z8 3 (.int .i64 0) 1 8 Try.underlying42 infoIntA rfl (by omega) _ [] (iota m) intC (fun _ => rfl) intC_one rfl hacX (some ⟨bo, oo, none⟩) m c3 rfl hN8 (by simp; omega) (by omega) hz88 ?_; intro v9 w9 hacc9 hgrow9 hat9; have B9 := hacX.grow_below b8 hgrow9 hz8e b8.size; obtain ⟨XA, xc, rfl, hxc, hXO⟩ := hacc9.own (fun _ => rfl); have hxl : (([] : List Int) ++ iota m).length = m := (by rw [List.nil_append, iota_len]); rw [hxl] at hxc hXO ⊢; obtain ⟨gx, Tx, eX, hgx1, hgx2, hPX'⟩ := hXO.2 (by omega); subst eX; have hPX : Part w9 gx Tx m 1 (iota m) intC m := hPX'; clear hPX' hXO hacc9; have p0 := hPX.int_at (iota_len m) (p := 0) (by omega); have pf0 := hPX.frozen 0; have gy19 := keepcell gy1 B9; have hP0 := hPX.int_set (p := 0) 1; have B10 := B9.setCell (p := ⟨gx, 0, none⟩) (show wr.heap.size ≤ gx by omega) (.int .i64 1); obtain ⟨u10, hu10⟩ : ∃ z, Hid (w9.setCell ⟨gx, 0, none⟩ (.int .i64 1) = z) := ⟨_, rfl⟩; rw [hu10.out] at hP0 B10; have p1 := hP0.int_at (by rw [List.length_set, iota_len]) (p := 1) (by omega); have pf1 := hP0.frozen 1; have gy010 := keepcell gy0 B10; have hP1 := hP0.int_set (p := 1) 0; have B11 := B10.setCell (p := ⟨gx, 1, none⟩) (show wr.heap.size ≤ gx by omega) (.int .i64 0); obtain ⟨u11, hu11⟩ : ∃ z, Hid (u10.setCell ⟨gx, 1, none⟩ (.int .i64 0) = z) := ⟨_, rfl⟩; rw [hu11.out] at hP1 B11; have q1 := keepcell j1 B11; have q2 := keepcell j2 B11; have hR11 := hRr.below B11; have hO11 := hRO.below B11; have hD11 := hBr.trans (B11.mono hszr); have hX11 : Rd u11 (some ⟨gx, 0, none⟩) m 1 (swapped m) intC := (show Own u11 z8 (gx + 1) (some ⟨gx, 0, none⟩) m 1 (swapped m) intC from ⟨swapped_len m, fun _ => ⟨gx, Tx, rfl, hgx1, Nat.lt_succ_self _, hP1⟩⟩).rd))
          refine (orderI_any _ m cq js n (some ⟨gx, 0, none⟩) m xc (swapped m) _ hR11 hm20 hX11 hm20 hxc).mono ?_
          rintro e u12 ⟨rfl, d12⟩
          rw [HSW.out, HV.out]
          have hR12 := hR11.below d12; have hO12 := hO11.below d12; have hD12 := hD11.trans (d12.mono hD11.size)
          go_wp2_with fail
          refine (mostI_any _ m cq js n _ hR12 hm20).mono ?_
          rintro e y1 ⟨rfl, c1⟩
          rw [← HMU.out]
          go_wp2_with fail
          refine (orderI_any _ m cq js n OA m oc rs.flatten _ (hR12.below c1) hm20 (hO12.below c1) hm20 hoc).mono ?_
          rintro e y2 ⟨rfl, c2⟩
          rw [HCO2.out]
          have D2 := (hD12.trans (c1.mono hD12.size)).trans (c2.mono (hD12.trans (c1.mono hD12.size)).size)
          go_wp2_with fail
          refine (countI_any _ 3 3 sixJ 4 _ (rd_six _ _) (by omega)).mono ?_
          rintro e y3 ⟨rfl, c3⟩
          rw [show countOrders sixJ 4 = 2 from count_six]
          have D3 := D2.trans ((((Below.refl _ _).alloc (Nat.le_refl _) _).trans (c3.mono ((Below.refl _ _).alloc (Nat.le_refl _) _ : Below y2.heap.size y2 _).size)).mono D2.size)
          go_wp2_with fail
          go_ret
          exact ⟨rfl, D3⟩
        · by_cases hb : b1 = n
          · have hb' := hb.symm; subst hb'
            have HV := Lib.hid (show freeB js n = false by rw [HFB.out]; simp)
            go_wp2_with (first | (rw [hw8.out]; (try rw [hz8.out])) | rw [hu10.out] | rw [hu11.out] | (at_builtin; refine wpList_accsG rfl _ _ 42 rfl z8 3 (.int .i64 0) 1 8 Try.underlying42 infoIntA rfl (by omega) _ [] (iota m) intC (fun _ => rfl) intC_one rfl hacX (some ⟨bo, oo, none⟩) m c3 rfl hN8 (by simp; omega) (by omega) hz88 ?_; intro v9 w9 hacc9 hgrow9 hat9; have B9 := hacX.grow_below b8 hgrow9 hz8e b8.size; obtain ⟨XA, xc, rfl, hxc, hXO⟩ := hacc9.own (fun _ => rfl); have hxl : (([] : List Int) ++ iota m).length = m := (by rw [List.nil_append, iota_len]); rw [hxl] at hxc hXO ⊢; obtain ⟨gx, Tx, eX, hgx1, hgx2, hPX'⟩ := hXO.2 (by omega); subst eX; have hPX : Part w9 gx Tx m 1 (iota m) intC m := hPX'; clear hPX' hXO hacc9; have p0 := hPX.int_at (iota_len m) (p := 0) (by omega); have pf0 := hPX.frozen 0; have gy19 := keepcell gy1 B9; have hP0 := hPX.int_set (p := 0) 1; have B10 := B9.setCell (p := ⟨gx, 0, none⟩) (show wr.heap.size ≤ gx by omega) (.int .i64 1); obtain ⟨u10, hu10⟩ : ∃ z, Hid (w9.setCell ⟨gx, 0, none⟩ (.int .i64 1) = z) := ⟨_, rfl⟩; rw [hu10.out] at hP0 B10; have p1 := hP0.int_at (by rw [List.length_set, iota_len]) (p := 1) (by omega); have pf1 := hP0.frozen 1; have gy010 := keepcell gy0 B10; have hP1 := hP0.int_set (p := 1) 0; have B11 := B10.setCell (p := ⟨gx, 1, none⟩) (show wr.heap.size ≤ gx by omega) (.int .i64 0); obtain ⟨u11, hu11⟩ : ∃ z, Hid (u10.setCell ⟨gx, 1, none⟩ (.int .i64 0) = z) := ⟨_, rfl⟩; rw [hu11.out] at hP1 B11; have q1 := keepcell j1 B11; have q2 := keepcell j2 B11; have hR11 := hRr.below B11; have hO11 := hRO.below B11; have hD11 := hBr.trans (B11.mono hszr); have hX11 : Rd u11 (some ⟨gx, 0, none⟩) m 1 (swapped m) intC := (show Own u11 z8 (gx + 1) (some ⟨gx, 0, none⟩) m 1 (swapped m) intC from ⟨swapped_len m, fun _ => ⟨gx, Tx, rfl, hgx1, Nat.lt_succ_self _, hP1⟩⟩).rd))
            refine (orderI_any _ m cq js n (some ⟨gx, 0, none⟩) m xc (swapped m) _ hR11 hm20 hX11 hm20 hxc).mono ?_
            rintro e u12 ⟨rfl, d12⟩
            rw [HSW.out, HV.out]
            have hR12 := hR11.below d12; have hO12 := hO11.below d12; have hD12 := hD11.trans (d12.mono hD11.size)
            go_wp2_with fail
            refine (mostI_any _ m cq js n _ hR12 hm20).mono ?_
            rintro e y1 ⟨rfl, c1⟩
            rw [← HMU.out]
            go_wp2_with fail
            refine (orderI_any _ m cq js n OA m oc rs.flatten _ (hR12.below c1) hm20 (hO12.below c1) hm20 hoc).mono ?_
            rintro e y2 ⟨rfl, c2⟩
            rw [HCO2.out]
            have D2 := (hD12.trans (c1.mono hD12.size)).trans (c2.mono (hD12.trans (c1.mono hD12.size)).size)
            go_wp2_with fail
            refine (countI_any _ 3 3 sixJ 4 _ (rd_six _ _) (by omega)).mono ?_
            rintro e y3 ⟨rfl, c3⟩
            rw [show countOrders sixJ 4 = 2 from count_six]
            have D3 := D2.trans ((((Below.refl _ _).alloc (Nat.le_refl _) _).trans (c3.mono ((Below.refl _ _).alloc (Nat.le_refl _) _ : Below y2.heap.size y2 _).size)).mono D2.size)
            go_wp2_with fail
            go_ret
            exact ⟨rfl, D3⟩
          · have ha2 : (a1 != n) = true := by simp [ha]
            have hb2 : (b1 != n) = true := by simp [hb]
            have HV := Lib.hid (show freeB js n = true by rw [HFB.out]; simp [ha, hb])
            have hco := HC2.out HV.out
            rw [hCO.out] at hco
            have hco' : ¬ CO < 2 := by omega
            go_wp2_with (first | (rw [hw8.out]; (try rw [hz8.out])) | rw [hu10.out] | rw [hu11.out] | (at_builtin; refine wpList_accsG rfl _ _ 42 rfl z8 3 (.int .i64 0) 1 8 Try.underlying42 infoIntA rfl (by omega) _ [] (iota m) intC (fun _ => rfl) intC_one rfl hacX (some ⟨bo, oo, none⟩) m c3 rfl hN8 (by simp; omega) (by omega) hz88 ?_; intro v9 w9 hacc9 hgrow9 hat9; have B9 := hacX.grow_below b8 hgrow9 hz8e b8.size; obtain ⟨XA, xc, rfl, hxc, hXO⟩ := hacc9.own (fun _ => rfl); have hxl : (([] : List Int) ++ iota m).length = m := (by rw [List.nil_append, iota_len]); rw [hxl] at hxc hXO ⊢; obtain ⟨gx, Tx, eX, hgx1, hgx2, hPX'⟩ := hXO.2 (by omega); subst eX; have hPX : Part w9 gx Tx m 1 (iota m) intC m := hPX'; clear hPX' hXO hacc9; have p0 := hPX.int_at (iota_len m) (p := 0) (by omega); have pf0 := hPX.frozen 0; have gy19 := keepcell gy1 B9; have hP0 := hPX.int_set (p := 0) 1; have B10 := B9.setCell (p := ⟨gx, 0, none⟩) (show wr.heap.size ≤ gx by omega) (.int .i64 1); obtain ⟨u10, hu10⟩ : ∃ z, Hid (w9.setCell ⟨gx, 0, none⟩ (.int .i64 1) = z) := ⟨_, rfl⟩; rw [hu10.out] at hP0 B10; have p1 := hP0.int_at (by rw [List.length_set, iota_len]) (p := 1) (by omega); have pf1 := hP0.frozen 1; have gy010 := keepcell gy0 B10; have hP1 := hP0.int_set (p := 1) 0; have B11 := B10.setCell (p := ⟨gx, 1, none⟩) (show wr.heap.size ≤ gx by omega) (.int .i64 0); obtain ⟨u11, hu11⟩ : ∃ z, Hid (u10.setCell ⟨gx, 1, none⟩ (.int .i64 0) = z) := ⟨_, rfl⟩; rw [hu11.out] at hP1 B11; have q1 := keepcell j1 B11; have q2 := keepcell j2 B11; have hR11 := hRr.below B11; have hO11 := hRO.below B11; have hD11 := hBr.trans (B11.mono hszr); have hX11 : Rd u11 (some ⟨gx, 0, none⟩) m 1 (swapped m) intC := (show Own u11 z8 (gx + 1) (some ⟨gx, 0, none⟩) m 1 (swapped m) intC from ⟨swapped_len m, fun _ => ⟨gx, Tx, rfl, hgx1, Nat.lt_succ_self _, hP1⟩⟩).rd))
            refine (orderI_any _ m cq js n (some ⟨gx, 0, none⟩) m xc (swapped m) _ hR11 hm20 hX11 hm20 hxc).mono ?_
            rintro e u12 ⟨rfl, d12⟩
            rw [HSW.out, HV.out]
            have hR12 := hR11.below d12; have hO12 := hO11.below d12; have hD12 := hD11.trans (d12.mono hD11.size)
            go_wp2_with fail
            refine (mostI_any _ m cq js n _ hR12 hm20).mono ?_
            rintro e y1 ⟨rfl, c1⟩
            rw [← HMU.out]
            go_wp2_with fail
            refine (orderI_any _ m cq js n OA m oc rs.flatten _ (hR12.below c1) hm20 (hO12.below c1) hm20 hoc).mono ?_
            rintro e y2 ⟨rfl, c2⟩
            rw [HCO2.out]
            have D2 := (hD12.trans (c1.mono hD12.size)).trans (c2.mono (hD12.trans (c1.mono hD12.size)).size)
            go_wp2_with fail
            refine (countI_any _ 3 3 sixJ 4 _ (rd_six _ _) (by omega)).mono ?_
            rintro e y3 ⟨rfl, c3⟩
            rw [show countOrders sixJ 4 = 2 from count_six]
            have D3 := D2.trans ((((Below.refl _ _).alloc (Nat.le_refl _) _).trans (c3.mono ((Below.refl _ _).alloc (Nat.le_refl _) _ : Below y2.heap.size y2 _).size)).mono D2.size)
            go_wp2_with fail
            go_ret
            exact ⟨rfl, D3⟩
      · have hm2I : ¬ (1 : Int) < (m : Int) := by omega
        go_wp2_with fail
        refine (mostI_any _ m cq js n _ hRr hm20).mono ?_
        rintro e y1 ⟨rfl, c1⟩
        rw [← HMU.out]
        go_wp2_with fail
        refine (orderI_any _ m cq js n OA m oc rs.flatten _ (hRr.below c1) hm20 (hRO.below c1) hm20 hoc).mono ?_
        rintro e y2 ⟨rfl, c2⟩
        rw [HCO2.out]
        have D2 := (hBr.trans (c1.mono hBr.size)).trans (c2.mono (hBr.trans (c1.mono hBr.size)).size)
        go_wp2_with fail
        refine (countI_any _ 3 3 sixJ 4 _ (rd_six _ _) (by omega)).mono ?_
        rintro e y3 ⟨rfl, c3⟩
        rw [show countOrders sixJ 4 = 2 from count_six]
        have D3 := D2.trans ((((Below.refl _ _).alloc (Nat.le_refl _) _).trans (c3.mono ((Below.refl _ _).alloc (Nat.le_refl _) _ : Below y2.heap.size y2 _).size)).mono D2.size)
        go_wp2_with fail
        go_ret
        exact ⟨rfl, D3⟩

end Go.Proofs.Ytmjdgplkcocgmaa
