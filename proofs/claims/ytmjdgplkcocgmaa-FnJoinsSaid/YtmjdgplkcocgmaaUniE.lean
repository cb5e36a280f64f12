/-
  Contracts over units: the longest seam.
-/
import Derived.Test.YtmjdgplkcocgmaaUniC
set_option linter.unusedVariables false
namespace Go.Proofs.Ytmjdgplkcocgmaa
open Go.RowKit

theorem seams_full {w h : Int} {ps : List Patch} {l : List Join} (k : areJoins w h ps l = true) : sewnUp ps l l.length = some (sewn ps l) := by
  obtain ⟨h1, h2, h3⟩ := are_parts k
  obtain ⟨q, hq, hs, hu⟩ := sewn_ok (l := l) (layout_parts h1).2.2.2.1
  have : q = l.length := by rw [← hs.seams]; exact h3
  rw [this] at hu
  exact hu

set_option maxRecDepth 100000 in
set_option maxHeartbeats 2000000 in
theorem longI_any (w h : Int) (A : Option Addr) (n c : Nat) (ps : List Patch) (B : Option Addr) (m d : Nat) (ls : List Join) (W : World) (hR : Rd W A n 5 ps patchC) (hN : n ≤ 1048576) (hJ : Rd W B m 3 ls joinC) (hm : m ≤ 1048576) :
    Calls Try.prog 42 #[.agg #[.int .i64 w, .int .i64 h, .slice A n c], .slice B m d] W fun e w' => e = .returned (.int .i64 (longestSeam w h ps ls)) ∧ Below W.heap.size W w' := by
  have HLEN := Lib.hid hR.len
  have HLJ := Lib.hid hJ.len
  obtain ⟨jb, hjb⟩ : ∃ j, Hid (j = W.heap.size) := ⟨_, rfl⟩
  have e0 : (W.alloc (.cells #[.int .i64 w, .int .i64 h, .slice A n c] 30)).cell? ⟨jb, 0, none⟩ = some (.int .i64 w) := by rw [hjb.out, cell_of_row _ _ _ _ _ _ (heap_alloc_new W _)]; rfl
  have e1 : (W.alloc (.cells #[.int .i64 w, .int .i64 h, .slice A n c] 30)).cell? ⟨jb, 1, none⟩ = some (.int .i64 h) := by rw [hjb.out, cell_of_row _ _ _ _ _ _ (heap_alloc_new W _)]; rfl
  have e2 : (W.alloc (.cells #[.int .i64 w, .int .i64 h, .slice A n c] 30)).cell? ⟨jb, 2, none⟩ = some (.slice A n c) := by rw [hjb.out, cell_of_row _ _ _ _ _ _ (heap_alloc_new W _)]; rfl
  have hb0 : Below W.heap.size W (W.alloc (.cells #[.int .i64 w, .int .i64 h, .slice A n c] 30)) := (Below.refl _ _).alloc (Nat.le_refl _) _
  have hRa := hR.below hb0
  have hJa := hJ.below hb0
  have hza : W.heap.size ≤ (W.alloc (.cells #[.int .i64 w, .int .i64 h, .slice A n c] 30)).heap.size := hb0.size
  rcases ha : areJoins w h ps ls with _ | _
  · have HN := Lib.hid (long_no ha)
    go_enter Try.func42, Try.ntmps42
    go_wp2_with fail
    refine (areI_any _ _ _ _ _ ps _ _ _ ls _ hRa hN hJa hm).mono ?_
    rintro e w1 ⟨rfl, hb1⟩
    rw [ha]
    have hB1 : Below W.heap.size W w1 := hb0.trans (hb1.mono hza)
    go_wp2
    go_ret
    exact ⟨ret_i HN.out, hB1⟩
  · have HY := Lib.hid (long_yes ha)
    have HFU := Lib.hid (seams_full ha)
    have hpp := are_parts ha
    have HL := Lib.hid hpp.1
    have HSL := Lib.hid hpp.2.2
    have HA := Lib.hid ha
    clear hpp ha
    go_enter Try.func42, Try.ntmps42
    go_wp2_with fail
    rw [← hjb.out]
    refine (areI_any _ _ _ _ _ ps _ _ _ ls _ hRa hN hJa hm).mono ?_
    rintro e w1 ⟨rfl, hb1⟩
    rw [HA.out]
    have hz1 := hb1.size
    replace e0 := keepcell e0 hb1
    replace e1 := keepcell e1 hb1
    replace e2 := keepcell e2 hb1
    have hB1 : Below W.heap.size W w1 := hb0.trans (hb1.mono hza)
    have hR1 := hRa.below hb1
    have hJ1 := hJa.below hb1
    go_wp2_with (go_at_call 84; refine (unitsI_any _ _ _ _ _ ps _ _ _ ls _ hR1 HL.out hJ1 hm).mono ?_; rintro e w2 ⟨A2, n2, c2, B2, m2, d2, rfl, hO2, hS2, hb2⟩; have hsl := hS2.len)
    have hB2 := hB1.trans (hb2.mono hB1.size)
    clear e0 e1 e2
    obtain ⟨sm, hsm⟩ : ∃ l, Hid (l = (sewn ps ls).seams) := ⟨_, rfl⟩
    rw [← hsm.out] at hS2 HY hsl
    have hm2 : m2 ≤ m := by rw [← hsl, hsm.out, HSL.out, HLJ.out]; exact Nat.le_refl _
    have HM2 := Lib.hid hsl
    clear hsl
    go_loopw [7, 22] (fun o i wr => ∃ k : Nat, k ≤ m2 ∧ i = .int .i64 (k : Int) ∧ o = .int .i64 (maxI (sm.take k)) ∧ Below w2.heap.size w2 wr) (fun _ i _ => m2 - (intOf i).toNat)
    case atStart => exact ⟨0, Nat.zero_le _, rfl, rfl, Below.refl _ _⟩
    case round =>
      obtain ⟨k, hk, rfl, rfl, hB⟩ := hrel
      by_cases hlt : k < m2
      · obtain ⟨b, off, x, rfl, hbW, hx, g0⟩ := hS2.int hlt hB
        have HS := Lib.hid (maxI_succ hx)
        clear hx
        generalize maxI (sm.take k) = mu at HS
        obtain ⟨mx, hmx⟩ : ∃ mx, (if mu < x then x else mu) = mx := ⟨_, rfl⟩
        have HM := Lib.hid (show mx = maxI (sm.take (k + 1)) by rw [HS.out, ← hmx]; split <;> omega)
        go_wp2
        go_roundw
        case rel => exact ⟨k + 1, by omega, by go_num, by rw [HM.out], hB⟩
        case measure => simp [intOf]; omega
      · obtain rfl : k = m2 := by omega
        have HF := Lib.hid (show maxI (sm.take k) = longestSeam w h ps ls by rw [HY.out, List.take_of_length_le (Nat.le_of_eq HM2.out)])
        go_wp2
        go_ret
        exact ⟨ret_i HF.out, hB2.trans (hB.mono hB2.size)⟩

end Go.Proofs.Ytmjdgplkcocgmaa
