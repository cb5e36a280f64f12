/-
  The walk of the law: what is cut is greater than what is seen.
-/
import Derived.Test.YtmjdgplkcocgmaaAlwA
set_option linter.unusedVariables false
namespace Go.Proofs.Ytmjdgplkcocgmaa
open Go.RowKit

set_option maxRecDepth 100000 in
set_option maxHeartbeats 4000000 in
theorem walk_FnAllowances (A0 : Option Addr) (n0 c0 : Nat) (xs0 : List UInt8) (W : World) (hk0_ : n0 ≤ c0) (hm0_ : c0 ≤ maxLen) (hR0 : Rd W A0 n0 1 xs0 byteC) :
    Calls Try.prog 5 #[.slice A0 n0 c0] W fun e w' => e = .returned (.bool true) ∧ Below W.heap.size W w' := by
  have hn63 : n0 ≤ 9223372036854775807 := by unfold maxLen at hm0_; omega
  rcases Nat.lt_or_ge 1048576 n0 with hn0 | hn0
  · have hbig : decide ((1048576 : Int) < n0) = true := by simpa using (by omega : (1048576 : Int) < n0)
    go_enter Try.func5, Try.ntmps5
    go_wp2_with fail
    refine (big_any A0 n0 c0 _ hn63).mono ?_
    rintro e w' ⟨rfl, rfl⟩
    go_wp2_with fail
    go_ret
    exact ⟨rfl, by (repeat (first | exact Below.refl _ _ | assumption | (refine Below.drew ?_) | (refine below_drewN ?_ _) | (refine Below.alloc ?_ (by first | exact Nat.le_refl _ | (simp; done) | (simp; omega) | omega) _) | (refine Below.setCell ?_ (by first | exact Nat.le_refl _ | (simp; done) | (simp; omega) | omega) _) | (refine Below.trans ?_ (Below.mono (by assumption) (by first | exact Nat.le_refl _ | (simp; done) | (simp; omega) | omega)))))⟩
  · have hbig : decide ((1048576 : Int) < n0) = false := by simpa using (by omega : ¬ (1048576 : Int) < n0)
    go_enter Try.func5, Try.ntmps5
    go_wp2_with fail
    refine (big_any A0 n0 c0 _ hn63).mono ?_
    rintro e w' ⟨rfl, rfl⟩
    go_wp2_with fail
    refine (at_any A0 n0 c0 xs0 0 _ hR0 hn0 (by omega) (by omega)).mono ?_
    rintro e w' ⟨a, rfl, ha0, ha1, rfl⟩
    obtain ⟨N, hN⟩ : ∃ N, Hid (N = 1 + a * 3) := ⟨_, rfl⟩
    have hNa : 1 + a * 3 = N := hN.out.symm
    have hN1 : 1 ≤ N := by omega
    have hN2 : N ≤ 766 := by omega
    have hw1 : IntKind.i64.wrap (a * 3) = a * 3 := by rw [IntKind.wrap_i64]; omega
    have hw2 : IntKind.i64.wrap (1 + a * 3) = N := by rw [IntKind.wrap_i64]; omega
    go_wp2_with fail
    refine (cutSizeI_any N _).mono ?_
    rintro e w' ⟨rfl, rfl⟩
    rw [cut_small hN1 (by omega)]
    clear hw1 hw2 hNa hN ha0 ha1
    go_wp2_with fail
    refine (drawLayout_any A0 n0 c0 xs0 _ hR0 hn0).mono ?_
    rintro e w1 ⟨lw, lh, ps, A1, n, c1, rfl, hok, hR1, hb1⟩
    obtain ⟨w2, hw2⟩ : ∃ v, Hid (w1.alloc (.cells #[.int .i64 lw, .int .i64 lh, .slice A1 n c1] 30) = v) := ⟨_, rfl⟩
    obtain ⟨j, hj⟩ : ∃ j, Hid (w1.heap.size = j) := ⟨_, rfl⟩
    have q2 : w2.heap[j]? = some (.cells #[.int .i64 lw, .int .i64 lh, .slice A1 n c1] 30 (0, 0)) := by rw [← hw2.out, ← hj.out]; exact heap_alloc_new w1 _
    have b2 : Below w1.heap.size w1 w2 := by rw [← hw2.out]; exact (Below.refl _ _).alloc (Nat.le_refl _) _
    have hz1 := hb1.size
    have B2 : Below W.heap.size W w2 := hb1.trans (b2.mono hz1)
    have hR02 := hR0.below B2
    have hR2 := hR1.below b2
    clear hR1 b2 hR0 hb1 hz1
    go_wp2_with fail
    rw [hw2.out, hj.out]
    refine (at_any A0 n0 c0 xs0 1 _ hR02 hn0 (by omega) (by omega)).mono ?_
    rintro e w' ⟨a1, rfl, ha0, ha1, rfl⟩
    have hsa : 0 ≤ a1 % 40 ∧ a1 % 40 ≤ 39 := by omega
    obtain ⟨s, hs⟩ : ∃ s, Hid (s = 1 + a1 % 40) := ⟨_, rfl⟩
    have hs1 : 1 ≤ s := by rw [hs.out]; omega
    have hs2 : s ≤ 40 := by rw [hs.out]; omega
    have hsm : 1 + a1 % 40 = s := hs.out.symm
    obtain ⟨hcs, hcl, hgt, hp1, hp2, hp3, hp4⟩ := alw_need hok hs1 hs2
    have HCUT := Lib.hid hcs
    have HCL := Lib.hid hcl
    obtain ⟨M, hM⟩ : ∃ M, Hid (M = mulSum (ps.map (cutRow s))) := ⟨_, rfl⟩
    rw [← hM.out] at hgt HCL
    have hn12 : n ≤ 12 := by have := (layout_parts hok).2.2.1.2; rw [hR2.len] at this; exact this
    have HL := Lib.hid (layout_parts hok)
    have l0 : w2.cell? ⟨j, 0, none⟩ = some (.int .i64 lw) := by rw [cell_of_row _ _ _ _ _ _ q2]; rfl
    have l1 : w2.cell? ⟨j, 1, none⟩ = some (.int .i64 lh) := by rw [cell_of_row _ _ _ _ _ _ q2]; rfl
    have l2 : w2.cell? ⟨j, 2, none⟩ = some (.slice A1 n c1) := by rw [cell_of_row _ _ _ _ _ _ q2]; rfl
    clear hcs hcl hsa
    go_wp2_with fail
    (try rw [hsm])
    refine (cutsI_any lw lh A1 n c1 ps s _ hR2 (by omega)).mono ?_
    rw [HCUT.out, List.length_map, hR2.len]
    rintro e w3 ⟨A3, c3, rfl, hk3, hO3, hb3⟩
    have hz3 := hb3.size
    have k0 := keepcell l0 hb3
    have k1 := keepcell l1 hb3
    have k2 := keepcell l2 hb3
    have hR3 := hR2.below hb3
    have q3 := (hb3.block j (heap_lt q2)).trans q2
    clear hsm ha0 ha1 l0 l1 l2
    go_wp2_with fail
    refine (clothI_any lw lh A1 n c1 ps s _ hR3 (by omega)).mono ?_
    rw [HCL.out]
    rintro e w4 ⟨rfl, hb4⟩
    have hz4 := hb4.size
    have q4 := (hb4.block j (heap_lt q3)).trans q3
    have hRS4 := hO3.rd.below hb4
    have hR4 := hR3.below hb4
    have B4 : Below W.heap.size W w4 := B2.trans ((hb3.trans (hb4.mono hz3)).mono B2.size)
    have hR04 := (hR02.below hb3).below hb4
    have l2 : w4.cell? ⟨j, 2, none⟩ = some (.slice A1 n c1) := by rw [cell_of_row _ _ _ _ _ _ q4]; rfl
    have l0 : w4.cell? ⟨j, 0, none⟩ = some (.int .i64 lw) := by rw [cell_of_row _ _ _ _ _ _ q4]; rfl
    have l1 : w4.cell? ⟨j, 1, none⟩ = some (.int .i64 lh) := by rw [cell_of_row _ _ _ _ _ _ q4]; rfl
    have hbM : 0 ≤ M ∧ M ≤ 1008016 * 12 := by
      have h := mulSum_bd (rs := ps.map (cutRow s)) (fun r hr => (cuts_good lw lh ps s).2 r (by rw [HCUT.out]; exact hr)) n
      rw [List.take_of_length_le (by rw [List.length_map, hR2.len]; exact Nat.le_refl _), ← hM.out] at h
      omega
    have HSB := Lib.hid (mulSum_bd (rs := ps.map (cutRow s)) (fun r hr => (cuts_good lw lh ps s).2 r (by rw [HCUT.out]; exact hr)))
    have HLEN := Lib.hid hR2.len
    have fN := finished_cut hN1 (by omega)
    have tN := triangle_yes hN1 (by omega)
    have hd1 : decide (N + 7 ≤ N + 4) = false := decide_eq_false (by omega)
    have hd2 : (N != N) = false := by simp
    have hd3 : (N + 4 != N + 4) = false := by simp
    have hd4 : ((n : Int) != (n : Int)) = false := by simp
    clear hk3 hO3 hb3 hb4 hz3 hz4 q3 hR3 hR2 hR02 k0 k1 k2 q2
    go_wp2_with (first
      | (go_at_call 30; refine (finishedSizeI_any _ _).mono ?_; rintro e w' ⟨rfl, rfl⟩; rw [fN])
      | (go_at_call 31; refine (triangleSideI_any _ _).mono ?_; rintro e w' ⟨rfl, rfl⟩; rw [tN]))
    clear fN tN hd1 hd2 hd3 hd4
    go_loopw [9, 10] (fun sm i wr => ∃ k : Nat, k ≤ n ∧ i = .int .i64 (k : Int) ∧ sm = .int .i64 (mulSum ((ps.map (cutRow s)).take k)) ∧ Below w4.heap.size w4 wr) (fun _ i _ => n - (intOf i).toNat)
    case atStart => exact ⟨0, Nat.zero_le _, rfl, rfl, Below.refl _ _⟩
    case round =>
      obtain ⟨k, hk, rfl, rfl, hB⟩ := hrel
      by_cases hlt : k < n
      · obtain ⟨b, off, A', n', c', r, rfl, hbW, hr, g0, hnc, hrn, hrR⟩ := hRS4.at_ hlt hB
        obtain ⟨pb, po, p, rfl, hpW, hp, _, _, p2, p3, _⟩ := hR4.patch hlt hB
        have HS := Lib.hid (mulSum_succ hr)
        rw [List.getElem?_map, hp, Option.map_some] at hr
        injection hr with hr
        have hin := patchIn_bd (List.all_eq_true.1 HL.out.2.2.2.1 p (List.mem_of_getElem? hp))
        have hlw := HL.out.1.2
        have hlh := HL.out.2.1.2
        obtain ⟨x, y, pw, ph, cc⟩ := p
        simp only at hin p2 p3
        obtain ⟨hrow, hpw, hph⟩ := alw_row (W := pw) (H := ph) (by omega) (by omega) (by omega) (by omega) hs1 hs2 x y cc
        rw [hrow] at hr
        subst hr
        have hn2 : n' = 2 := by rw [← hrn]; rfl
        subst hn2
        obtain ⟨b2, o2, z, rfl, hb2, hz, k0⟩ := hrR.int (k := 0) (by omega) (Below.refl _ _)
        obtain ⟨b3, o3, z', ee, hb3, hz', k1⟩ := hrR.int (k := 1) (by omega) (Below.refl _ _)
        injection ee with ee
        injection ee with ee1 ee2
        subst ee1 ee2
        obtain rfl : pw * s + 4 = z := by simpa using hz
        obtain rfl : ph * s + 4 = z' := by simpa using hz'
        rw [Nat.add_zero] at k0
        have hbd := HSB.out k
        have hm := mul_bd1004 (a := pw * s + 4) (b := ph * s + 4) (by omega) (by omega) (by omega) (by omega)
        have HS2 := Lib.hid (show mulSum ((ps.map (cutRow s)).take (k + 1)) = mulSum ((ps.map (cutRow s)).take k) + (pw * s + 4) * (ph * s + 4) from HS.out)
        have f1 := finished_cut hpw.1 (by omega)
        have f2 := finished_cut hph.1 (by omega)
        have hq1 : IntKind.i64.wrap (pw * s) = pw * s := by rw [IntKind.wrap_i64]; omega
        have hq2 : IntKind.i64.wrap (ph * s) = ph * s := by rw [IntKind.wrap_i64]; omega
        have hq3 : (pw * s != pw * s) = false := by simp
        have hq4 : (ph * s != ph * s) = false := by simp
        have hq5 : IntKind.i64.wrap ((pw * s + 4) * (ph * s + 4)) = (pw * s + 4) * (ph * s + 4) := by rw [IntKind.wrap_i64]; omega
        have m2 := keepcell l2 hB
        have hkn : (k : Int) < (n : Int) := by omega
        clear hrR hz hz' hrn HS hrow hin hp
        generalize mulSum ((ps.map (cutRow s)).take k) = ms at hbd HS2
        go_wp2_with fail
        go_region_held3 (fun v => v.cell? ⟨j, 2, none⟩ = some (.slice (some ⟨pb, po, none⟩) n c1) ∧ v.cell? ⟨b, off + k, none⟩ = some (.slice (some ⟨b2, o2, none⟩) 2 c') ∧ v.cell? ⟨b2, o2, none⟩ = some (.int .i64 (pw * s + 4)) ∧ v.cell? ⟨b2, o2 + 1, none⟩ = some (.int .i64 (ph * s + 4)) ∧ v.cell? ⟨pb, po + k * 5 + 2, none⟩ = some (.int .i64 pw) ∧ v.cell? ⟨pb, po + k * 5 + 3, none⟩ = some (.int .i64 ph) ∧ Below w4.heap.size w4 v)
          (first | (go_split_ands; refine ⟨?_, ?_, ?_, ?_, ?_, ?_, ?_⟩ <;> first | assumption | (exact keepcell (by assumption) (by assumption)) | (go_keep) | ((repeat (first | exact Below.refl _ _ | assumption | (refine Below.drew ?_) | (refine below_drewN ?_ _) | (refine Below.alloc ?_ (by first | exact Nat.le_refl _ | (simp; done) | (simp; omega) | omega) _) | (refine Below.setCell ?_ (by first | exact Nat.le_refl _ | (simp; done) | (simp; omega) | omega) _) | (refine Below.trans ?_ (Below.mono (by assumption) (by first | exact Nat.le_refl _ | (simp; done) | (simp; omega) | omega))))))))
          (first | (go_at_call 30; refine (finishedSizeI_any _ _).mono ?_; rintro e v ⟨rfl, rfl⟩))
        all_goals go_split_ands
        go_wp2
        go_quiet (fail)
        go_wp2
        go_roundw
        case rel => exact ⟨k + 1, by omega, by go_num, by rw [HS2.out], by (repeat (first | exact Below.refl _ _ | assumption | (refine Below.drew ?_) | (refine below_drewN ?_ _) | (refine Below.alloc ?_ (by first | exact Nat.le_refl _ | (simp; done) | (simp; omega) | omega) _) | (refine Below.setCell ?_ (by first | exact Nat.le_refl _ | (simp; done) | (simp; omega) | omega) _) | (refine Below.trans ?_ (Below.mono (by assumption) (by first | exact Nat.le_refl _ | (simp; done) | (simp; omega) | omega)))))⟩
        case measure => simp [intOf]; omega
      · obtain rfl : k = n := by omega
        rw [List.take_of_length_le (show (ps.map (cutRow s)).length ≤ k by rw [List.length_map, HLEN.out]; exact Nat.le_refl _), ← hM.out] at *
        have hR0w := hR04.below hB
        have m0 := keepcell l0 hB
        have m1 := keepcell l1 hB
        have B5 : Below W.heap.size W wr := B4.trans (hB.mono B4.size)
        clear l0 l1 l2 hRS4 hR4 hR04 hB B4 hlt
        go_wp2_with fail
        refine (at_any A0 n0 c0 xs0 2 _ hR0w hn0 (by omega) (by omega)).mono ?_
        rintro e w' ⟨a2, rfl, ha0, ha1, rfl⟩
        obtain ⟨P, hP⟩ : ∃ P, Hid (P = 1 + a2 % 90) := ⟨_, rfl⟩
        have hPm : 1 + a2 % 90 = P := hP.out.symm
        have hP1 : 1 ≤ P := by omega
        have hP2 : P ≤ 90 := by omega
        go_wp2_with fail
        (try rw [hPm])
        refine (at_any A0 n0 c0 xs0 3 _ hR0w hn0 (by omega) (by omega)).mono ?_
        rintro e w' ⟨a3, rfl, ha2, ha3, rfl⟩
        clear hP hPm
        obtain ⟨O, hO⟩ : ∃ O, Hid (O = a3 % 9 - 4) := ⟨_, rfl⟩
        have hOm : a3 % 9 - 4 = O := hO.out.symm
        have hO1 : -4 ≤ O := by omega
        have hO2 : O ≤ 4 := by omega
        obtain ⟨D, d1, d2, d3, hD1, hD2⟩ := alw_drift hP1 hP2 hO1 hO2
        have f4 := finished_no
        have hgt' : decide (lw * lh * s * s < M) = true := decide_eq_true hgt
        have hs1 : IntKind.i64.wrap (lw * lh) = lw * lh := by rw [IntKind.wrap_i64]; omega
        have hs2 : IntKind.i64.wrap (lw * lh * s) = lw * lh * s := by rw [IntKind.wrap_i64]; omega
        have hs3 : IntKind.i64.wrap (lw * lh * s * s) = lw * lh * s * s := by rw [IntKind.wrap_i64]; omega
        have hs4 : IntKind.i64.wrap (-O) = -O := by rw [IntKind.wrap_i64]; omega
        have hs5 : IntKind.i64.wrap (- -D) = D := by rw [IntKind.wrap_i64]; omega
        have hs6 : IntKind.i64.wrap (D + 2 * O - D) = 2 * O := by rw [IntKind.wrap_i64]; omega
        have he1 : (D == - -D) = true := by rw [beq_iff_eq]; omega
        have he2 : (D + 2 * O - D == 2 * O) = true := by rw [beq_iff_eq]; omega
        have he3 : (M == M) = true := by rw [beq_iff_eq]
        go_wp2_with (first
          | (go_at_call 32; refine (driftOfI_any _ _ _).mono ?_; rintro e w' ⟨rfl, rfl⟩; first | rw [d1] | rw [d2] | rw [d3])
          | (go_at_call 30; refine (finishedSizeI_any _ _).mono ?_; rintro e w' ⟨rfl, rfl⟩; rw [f4]))
        go_ret
        exact ⟨rfl, by (repeat (first | exact Below.refl _ _ | assumption | (refine Below.drew ?_) | (refine below_drewN ?_ _) | (refine Below.alloc ?_ (by first | exact Nat.le_refl _ | (simp; done) | (simp; omega) | omega) _) | (refine Below.setCell ?_ (by first | exact Nat.le_refl _ | (simp; done) | (simp; omega) | omega) _) | (refine Below.trans ?_ (Below.mono (by assumption) (by first | exact Nat.le_refl _ | (simp; done) | (simp; omega) | omega)))))⟩

end Go.Proofs.Ytmjdgplkcocgmaa
