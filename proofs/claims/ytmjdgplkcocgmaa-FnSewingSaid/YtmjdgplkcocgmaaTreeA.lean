/-
  Contracts over joins: which make a tree.
-/
import Derived.Test.YtmjdgplkcocgmaaDepA
import Derived.Test.YtmjdgplkcocgmaaZWords
set_option linter.unusedVariables false
namespace Go.Proofs.Ytmjdgplkcocgmaa
open Go.RowKit

theorem treeI_any (A : Option Addr) (n c : Nat) (xs : List Join) (m : Int) (W : World) (h : Rd W A n 3 xs joinC) (hn : n ≤ 1048576) :
    Calls Try.prog 94 #[.slice A n c, .int .i64 m] W fun e w' => e = .returned (.bool (treeOk xs m)) ∧ Below W.heap.size W w' := by
  have HLEN := Lib.hid h.len
  by_cases hneg : depthOf xs m < 0
  · have HN := Lib.hid (tree_no1 hneg)
    go_enter Try.func94, Try.ntmps94
    go_wp2_with (go_at_call 61; refine (depthI_any _ _ _ _ _ _ h hn ).mono ?_; rintro e w1 ⟨rfl, hb1⟩; obtain ⟨hc1, hf1⟩ := bcell hb1; have hz1 := hb1.size; (try simp at hz1); (try (have hy1_W_0 : W.heap.size < w1.heap.size := (by omega))); (try (have hy1_W_1 : W.heap.size + 1 < w1.heap.size := (by omega))); (try (have hy1_W_2 : W.heap.size + 2 < w1.heap.size := (by omega))); (try (have hy1_wr_0 : wr.heap.size < w1.heap.size := (by omega))); (try (have hy1_wr_1 : wr.heap.size + 1 < w1.heap.size := (by omega))); (try (have hy1_wr_2 : wr.heap.size + 2 < w1.heap.size := (by omega))); (try (have hyb1 : b < w1.heap.size := (by omega))))
    go_ret
    exact ⟨ret_b HN.out, by (repeat (first | exact Below.refl _ _ | assumption | (refine Below.drew ?_) | (refine below_drewN ?_ _) | (refine Below.alloc ?_ (by first | exact Nat.le_refl _ | (simp; done) | (simp; omega) | omega) _) | (refine Below.setCell ?_ (by first | exact Nat.le_refl _ | (simp; done) | (simp; omega) | omega) _) | (refine Below.trans ?_ (Below.mono (by assumption) (by first | exact Nat.le_refl _ | (simp; done) | (simp; omega) | omega)))))⟩
  · have hpos : 0 ≤ depthOf xs m := by omega
    obtain ⟨hs, d, hd⟩ := depth_parts hpos
    obtain ⟨hm, hl⟩ := sizeOk_parts hs
    rw [HLEN.out] at hl
    obtain ⟨q, rfl⟩ := Int.eq_ofNat_of_zero_le (show 0 ≤ m by omega)
    rw [Int.toNat_natCast] at hd
    have HD := Lib.hid hd
    have HPOS := Lib.hid hpos
    have hq : q ≤ 12 := by omega
    have hnq : n ≤ 11 := by omega
    clear hd hpos hs hm hl
    have hmm := fun t w => run_makeMap (P := Try.prog) t w
    go_enter Try.func94, Try.ntmps94
    go_wp2_with (go_at_call 61; refine (depthI_any _ _ _ _ _ _ h hn ).mono ?_; rintro e w1 ⟨rfl, hb1⟩; obtain ⟨hc1, hf1⟩ := bcell hb1; have hz1 := hb1.size; (try simp at hz1); (try (have hy1_W_0 : W.heap.size < w1.heap.size := (by omega))); (try (have hy1_W_1 : W.heap.size + 1 < w1.heap.size := (by omega))); (try (have hy1_W_2 : W.heap.size + 2 < w1.heap.size := (by omega))); (try (have hy1_wr_0 : wr.heap.size < w1.heap.size := (by omega))); (try (have hy1_wr_1 : wr.heap.size + 1 < w1.heap.size := (by omega))); (try (have hy1_wr_2 : wr.heap.size + 2 < w1.heap.size := (by omega))); (try (have hyb1 : b < w1.heap.size := (by omega))))
    clear hmm
    have hM0 := Marked.made w1 (2 * q)
    have hB0 : Below W.heap.size W w1 := by (repeat (first | exact Below.refl _ _ | assumption | (refine Below.drew ?_) | (refine below_drewN ?_ _) | (refine Below.alloc ?_ (by first | exact Nat.le_refl _ | (simp; done) | (simp; omega) | omega) _) | (refine Below.setCell ?_ (by first | exact Nat.le_refl _ | (simp; done) | (simp; omega) | omega) _) | (refine Below.trans ?_ (Below.mono (by assumption) (by first | exact Nat.le_refl _ | (simp; done) | (simp; omega) | omega)))))
    have hz0 : W.heap.size ≤ w1.heap.size := hB0.size
    obtain ⟨g, hg⟩ : ∃ g, Hid (g = w1.heap.size) := ⟨_, rfl⟩
    rw [← hg.out] at hM0
    rw [← hg.out]
    have hgW : W.heap.size ≤ g := by rw [hg.out]; exact hz0
    go_loopw [15] (fun i wr => ∃ (k : Nat) (u : List Bool), k ≤ n ∧ i = .int .i64 (k : Int) ∧ Marked wr g (2 * k) u ∧ Hid (uses q (xs.take k) = some u) ∧ Below W.heap.size W wr) (fun i _ => n - (intOf i).toNat)
    case atStart => exact ⟨0, _, Nat.zero_le _, rfl, hM0, rfl, by (repeat (first | exact Below.refl _ _ | assumption | (refine Below.drew ?_) | (refine below_drewN ?_ _) | (refine Below.alloc ?_ (by first | exact Nat.le_refl _ | (simp; done) | (simp; omega) | omega) _) | (refine Below.setCell ?_ (by first | exact Nat.le_refl _ | (simp; done) | (simp; omega) | omega) _) | (refine Below.trans ?_ (Below.mono (by assumption) (by first | exact Nat.le_refl _ | (simp; done) | (simp; omega) | omega)))))⟩
    case round =>
      obtain ⟨k, u, hk, rfl, hM, hU, hB⟩ := hrel
      have hz := hB.size
      by_cases hlt : k < n
      · obtain ⟨b, off, x, rfl, hbW, hx, g0, g1, g2⟩ := h.join hlt hB
        have HX := Lib.hid hx
        have hun := depths_units HD.out hx
        have hul := uses_len hU.out
        clear hx
        obtain ⟨up, a, b2⟩ := x
        simp only at g0 g1 g2 hun
        obtain ⟨p, rfl⟩ := Int.eq_ofNat_of_zero_le hun.1.1
        obtain ⟨r, rfl⟩ := Int.eq_ofNat_of_zero_le hun.2.1
        have hp : p < q + k := by omega
        have hr : r < q + k := by omega
        have hkq : k < q := by
          have h1 := depths_bd HD.out
          have h2 := HLEN.out
          have h3 := sizeOk_parts (depth_parts HPOS.out).1
          omega
        clear hun
        have hMa := hM.below ((Below.refl _ _).alloc (Nat.le_refl _) (.cells #[.bool up, .int .i64 p, .int .i64 r] 76))
        have hla := hMa.look p (by omega)
        have hlb := hMa.look r (by omega)
        by_cases e1 : p = r
        · subst e1
          have HN := Lib.hid (useStep_no (u := u) (j := ⟨up, p, p⟩) (.inl (by simp)))
          go_wp2_with fail
          go_ret
          exact ⟨ret_b (tree_no2 (Int.toNat_natCast q) (runL_fail HX.out hU.out HN.out)), by (repeat (first | exact Below.refl _ _ | assumption | (refine Below.drew ?_) | (refine below_drewN ?_ _) | (refine Below.alloc ?_ (by first | exact Nat.le_refl _ | (simp; done) | (simp; omega) | omega) _) | (refine Below.setCell ?_ (by first | exact Nat.le_refl _ | (simp; done) | (simp; omega) | omega) _) | (refine Below.trans ?_ (Below.mono (by assumption) (by first | exact Nat.le_refl _ | (simp; done) | (simp; omega) | omega)))))⟩
        · have e1' : ((p : Int) == (r : Int)) = false := by rw [beq_eq_false_iff_ne]; omega
          rcases ha : u.getD p false with _ | _
          · rcases hb : u.getD r false with _ | _
            · have HY := Lib.hid (useStep_yes (u := u) (j := ⟨up, p, r⟩) e1' ha hb)
              rw [ha] at hla
              rw [hb] at hlb
              clear e1
              go_wp2_with fail
              have hn1 : (wr.alloc (.cells #[.bool up, .int .i64 p, .int .i64 r] 76)).cell? ⟨wr.heap.size, 1, none⟩ = some (.int .i64 p) := by rw [cell_of_row _ _ _ _ _ _ (heap_alloc_new wr _)]; rfl
              have hn2 : (wr.alloc (.cells #[.bool up, .int .i64 p, .int .i64 r] 76)).cell? ⟨wr.heap.size, 2, none⟩ = some (.int .i64 r) := by rw [cell_of_row _ _ _ _ _ _ (heap_alloc_new wr _)]; rfl
              have hBa : Below W.heap.size W (wr.alloc (.cells #[.bool up, .int .i64 p, .int .i64 r] 76)) := by (repeat (first | exact Below.refl _ _ | assumption | (refine Below.drew ?_) | (refine below_drewN ?_ _) | (refine Below.alloc ?_ (by first | exact Nat.le_refl _ | (simp; done) | (simp; omega) | omega) _) | (refine Below.setCell ?_ (by first | exact Nat.le_refl _ | (simp; done) | (simp; omega) | omega) _) | (refine Below.trans ?_ (Below.mono (by assumption) (by first | exact Nat.le_refl _ | (simp; done) | (simp; omega) | omega)))))
              have hjw : wr.heap.size < (wr.alloc (.cells #[.bool up, .int .i64 p, .int .i64 r] 76)).heap.size := by simp
              have hjg0 : g < wr.heap.size := hM.lt
              generalize wr.alloc (.cells #[.bool up, .int .i64 p, .int .i64 r] 76) = wa at hn1 hn2 hMa hBa hla hlb hjw ⊢
              generalize wr.heap.size = j at hn1 hn2 hjw hjg0 ⊢
              have hM1 : Marked (World.drew wa) g (2 * k) u := hMa.below ((Below.refl _ _).drew)
              have hB1 : Below W.heap.size W (World.drew wa) := hBa.drew
              have hz1 := hB1.size
              have hjg : some j ≠ some g := by intro h; injection h; omega
              have hk1 : 2 * k ≤ 8388608 := by omega
              have hk2 : 2 * k + 1 ≤ 8388608 := by omega
              have hpu : p < u.length := by omega
              have hru : r < (u.set p true).length := by rw [List.length_set]; omega
              have hpl : p ≤ 8388608 := by omega
              have hrl : r ≤ 8388608 := by omega
              obtain ⟨w2, hrun1, hM2, hg2⟩ := hM1.update hk1 hpu hpl
              obtain ⟨w3, hrun2, hM3, hg3⟩ := hM2.update hk2 hru hrl
              have hs2 : w2.cell? ⟨j, 1, none⟩ = some (.int .i64 p) ∧ w2.cell? ⟨j, 2, none⟩ = some (.int .i64 r) := ⟨(hg2.cell_far ⟨j, 1, none⟩ hjw hjg).trans hn1, (hg2.cell_far ⟨j, 2, none⟩ hjw hjg).trans hn2⟩
              have hs3 : w3.cell? ⟨j, 1, none⟩ = some (.int .i64 p) ∧ w3.cell? ⟨j, 2, none⟩ = some (.int .i64 r) := ⟨(hg3.cell_far ⟨j, 1, none⟩ (Nat.lt_of_lt_of_le hjw hg2.size) hjg).trans hs2.1, (hg3.cell_far ⟨j, 2, none⟩ (Nat.lt_of_lt_of_le hjw hg2.size) hjg).trans hs2.2⟩
              go_region_held3 (fun w' => w'.cell? ⟨j, 1, none⟩ = some (.int .i64 p) ∧ w'.cell? ⟨j, 2, none⟩ = some (.int .i64 r)) (first | go_keep | exact hs2 | exact hs3) (fail)
              go_wp2_with fail
              go_roundw
              case rel => exact ⟨k + 1, _, by omega, by go_num, hM3, runL_step HX.out hU.out HY.out, (hB1.grown hg2 hz1 (fun q hq => by injection hq with hq; omega)).grown hg3 (Nat.le_trans hz1 hg2.size) (fun q hq => by injection hq with hq; omega)⟩
              case measure => simp [intOf]; omega
            · have HN := Lib.hid (useStep_no (u := u) (j := ⟨up, p, r⟩) (.inr (.inr hb)))
              rw [ha] at hla
              rw [hb] at hlb
              clear e1
              go_wp2_with fail
              go_ret
              exact ⟨ret_b (tree_no2 (Int.toNat_natCast q) (runL_fail HX.out hU.out HN.out)), by (repeat (first | exact Below.refl _ _ | assumption | (refine Below.drew ?_) | (refine below_drewN ?_ _) | (refine Below.alloc ?_ (by first | exact Nat.le_refl _ | (simp; done) | (simp; omega) | omega) _) | (refine Below.setCell ?_ (by first | exact Nat.le_refl _ | (simp; done) | (simp; omega) | omega) _) | (refine Below.trans ?_ (Below.mono (by assumption) (by first | exact Nat.le_refl _ | (simp; done) | (simp; omega) | omega)))))⟩
          · have HN := Lib.hid (useStep_no (u := u) (j := ⟨up, p, r⟩) (.inr (.inl ha)))
            rw [ha] at hla
            clear e1
            go_wp2_with fail
            go_ret
            exact ⟨ret_b (tree_no2 (Int.toNat_natCast q) (runL_fail HX.out hU.out HN.out)), by (repeat (first | exact Below.refl _ _ | assumption | (refine Below.drew ?_) | (refine below_drewN ?_ _) | (refine Below.alloc ?_ (by first | exact Nat.le_refl _ | (simp; done) | (simp; omega) | omega) _) | (refine Below.setCell ?_ (by first | exact Nat.le_refl _ | (simp; done) | (simp; omega) | omega) _) | (refine Below.trans ?_ (Below.mono (by assumption) (by first | exact Nat.le_refl _ | (simp; done) | (simp; omega) | omega)))))⟩
      · go_wp2
        go_ret
        obtain rfl : k = n := by omega
        exact ⟨ret_b (tree_yes HPOS.out (Int.toNat_natCast q) (by have := hU.out; rw [List.take_of_length_le (Nat.le_of_eq HLEN.out)] at this; exact this)), hB⟩

end Go.Proofs.Ytmjdgplkcocgmaa
