/-
  Contracts over units: the longest seam by the reference.
-/
import Derived.Test.YtmjdgplkcocgmaaUniE
import Derived.Test.YtmjdgplkcocgmaaUniS
set_option linter.unusedVariables false
namespace Go.Proofs.Ytmjdgplkcocgmaa
open Go.RowKit

set_option maxRecDepth 100000 in
set_option maxHeartbeats 2000000 in
theorem longS_any (w h : Int) (A : Option Addr) (n c : Nat) (ps : List Patch) (B : Option Addr) (m d : Nat) (ls : List Join) (W : World) (hR : Rd W A n 5 ps patchC) (hN : n ≤ 1048576) (hJ : Rd W B m 3 ls joinC) (hm : m ≤ 1048576) :
    Calls Try.prog 41 #[.agg #[.int .i64 w, .int .i64 h, .slice A n c], .slice B m d] W fun e w' => e = .returned (.int .i64 (longestSeam w h ps ls)) ∧ Below W.heap.size W w' := by
  have HLEN := Lib.hid hR.len
  have HLJ := Lib.hid hJ.len
  obtain ⟨jb, hjb⟩ : ∃ j, Hid (j = W.heap.size) := ⟨_, rfl⟩
  have e0 : (W.alloc (.cells #[.int .i64 w, .int .i64 h, .slice A n c] 30)).cell? ⟨jb, 0, none⟩ = some (.int .i64 w) := by rw [hjb.out, cell_of_row _ _ _ _ _ _ (heap_alloc_new W _)]; rfl
  have e1 : (W.alloc (.cells #[.int .i64 w, .int .i64 h, .slice A n c] 30)).cell? ⟨jb, 1, none⟩ = some (.int .i64 h) := by rw [hjb.out, cell_of_row _ _ _ _ _ _ (heap_alloc_new W _)]; rfl
  have e2 : (W.alloc (.cells #[.int .i64 w, .int .i64 h, .slice A n c] 30)).cell? ⟨jb, 2, none⟩ = some (.slice A n c) := by rw [hjb.out, cell_of_row _ _ _ _ _ _ (heap_alloc_new W _)]; rfl
  have hb0 : Below W.heap.size W (W.alloc (.cells #[.int .i64 w, .int .i64 h, .slice A n c] 30)) := (Below.refl _ _).alloc (Nat.le_refl _) _
  have hRa := hR.below hb0
  have hJa := hJ.below hb0
  have hza : W.heap.size ≤ (W.alloc (.cells #[.int .i64 w, .int .i64 h, .slice A n c] 30)).heap.size := hb0.size
  rcases ha : areJoins w h ps ls with _ | _
  · have HN := Lib.hid (long_no ha)
    go_enter Try.func41, Try.ntmps41
    go_wp2_with fail
    refine (areS_any _ _ _ _ _ ps _ _ _ ls _ hRa hN hJa hm).mono ?_
    rintro e w1 ⟨rfl, hb1⟩
    rw [ha]
    have hB1 : Below W.heap.size W w1 := hb0.trans (hb1.mono hza)
    go_wp2
    go_ret
    exact ⟨ret_i HN.out, hB1⟩
  · have HY := Lib.hid (long_yes ha)
    have HFU := Lib.hid (seams_full ha)
    have hpp := are_parts ha
    have HL := Lib.hid hpp.1
    have HSL := Lib.hid hpp.2.2
    have HA := Lib.hid ha
    clear hpp ha
    go_enter Try.func41, Try.ntmps41
    go_wp2_with fail
    rw [← hjb.out]
    refine (areS_any _ _ _ _ _ ps _ _ _ ls _ hRa hN hJa hm).mono ?_
    rintro e w1 ⟨rfl, hb1⟩
    rw [HA.out]
    have hz1 := hb1.size
    replace e0 := keepcell e0 hb1
    replace e1 := keepcell e1 hb1
    replace e2 := keepcell e2 hb1
    have hB1 : Below W.heap.size W w1 := hb0.trans (hb1.mono hza)
    have hR1 := hRa.below hb1
    have hJ1 := hJa.below hb1
    go_wp2_with (go_at_call 82; refine (boxes_any _ _ _ _ _ ps _ _ _ ls _ hR1 HL.out hJ1 hm).mono ?_; rintro e w2 ⟨A2, n2, c2, rfl, hO2, hb2⟩)
    have hB2 := hB1.trans (hb2.mono hB1.size)
    have hJ2 := hJ1.below hb2
    clear e0 e1 e2
    have HOL := Lib.hid hO2.len
    obtain ⟨sm, hsm⟩ : ∃ l, Hid (l = (sewn ps ls).seams) := ⟨_, rfl⟩
    rw [← hsm.out] at HY
    go_loopw [6, 7] (fun o i wr => ∃ k : Nat, k ≤ m ∧ i = .int .i64 (k : Int) ∧ o = .int .i64 (maxI (sm.take k)) ∧ Below w2.heap.size w2 wr) (fun _ i _ => m - (intOf i).toNat)
    case atStart => exact ⟨0, Nat.zero_le _, rfl, rfl, Below.refl _ _⟩
    case round =>
      obtain ⟨k, hk, rfl, rfl, hB⟩ := hrel
      by_cases hlt : k < m
      · obtain ⟨b, off, x, rfl, hbW, hx, g0, g1, g2⟩ := hJ2.join hlt hB
        obtain ⟨⟨ha0, ha1⟩, hse, _⟩ := seam_at _ _ HFU.out k x (by rw [HLJ.out]; exact hlt) hx
        rw [← hsm.out] at hse
        have HS := Lib.hid (maxI_succ hse)
        clear hx hse
        obtain ⟨up, a, b2⟩ := x
        simp only at g0 g1 g2 ha0 ha1
        obtain ⟨pa, rfl⟩ := Int.eq_ofNat_of_zero_le ha0
        rw [Int.toNat_natCast, HOL.out] at ha1
        obtain ⟨b', off', y, rfl, hbW', hy, p0, p1, p2, p3, p4⟩ := hO2.patch ha1 hB
        have hyp : pAt (sewn ps ls).out (pa : Int) = y := by unfold pAt; rw [Int.toNat_natCast, List.getD_eq_getElem?_getD, hy]; rfl
        have HYP := Lib.hid hyp
        clear hy hyp ha0
        have hpn : (pa : Int) < (n2 : Int) := by omega
        generalize maxI (sm.take k) = mu at HS
        cases up
        · obtain ⟨mx, hmx⟩ : ∃ mx, (if mu < y.W then y.W else mu) = mx := ⟨_, rfl⟩
          have HM := Lib.hid (show mx = maxI (sm.take (k + 1)) by rw [HS.out, HYP.out, ← hmx]; show _ = max mu y.W; split <;> omega)
          go_wp2
          go_roundw
          case rel => exact ⟨k + 1, by omega, by go_num, by rw [HM.out], hB⟩
          case measure => simp [intOf]; omega
        · obtain ⟨mx, hmx⟩ : ∃ mx, (if mu < y.H then y.H else mu) = mx := ⟨_, rfl⟩
          have HM := Lib.hid (show mx = maxI (sm.take (k + 1)) by rw [HS.out, HYP.out, ← hmx]; show _ = max mu y.H; split <;> omega)
          go_wp2
          go_roundw
          case rel => exact ⟨k + 1, by omega, by go_num, by rw [HM.out], hB⟩
          case measure => simp [intOf]; omega
      · obtain rfl : k = m := by omega
        have HF := Lib.hid (show maxI (sm.take k) = longestSeam w h ps ls by rw [HY.out, List.take_of_length_le (by rw [hsm.out, HSL.out, HLJ.out]; exact Nat.le_refl _)])
        go_wp2
        go_ret
        exact ⟨ret_i HF.out, hB2.trans (hB.mono hB2.size)⟩

end Go.Proofs.Ytmjdgplkcocgmaa
