/-
  Contracts over blocks: the reference's colors of a block.
-/
import Derived.Test.YtkbpehklfjnjjaaBlkB
import Derived.Test.YtkbpehklfjnjjaaAccFar
set_option linter.unusedVariables false
namespace Go.Proofs.Ytkbpehklfjnjjaa
open Go.RowKit

set_option maxRecDepth 100000 in
set_option maxHeartbeats 1000000 in
theorem colorsS_any (s : Int) (A : Option Addr) (n c : Nat) (cs : List Cell) (W : World) (hR : Rd W A n 3 cs cellC) (hN : n ≤ 1048576) :
    Calls Try.prog 29 #[.agg #[.int .i64 s, .slice A n c]] W (Made W (colorsOf s cs).length 1 (colorsOf s cs) intC) := by
  have HLEN := Lib.hid hR.len
  obtain ⟨jb, hjb⟩ : ∃ j, Hid (j = W.heap.size) := ⟨_, rfl⟩
  have e1 : (W.alloc (.cells #[.int .i64 s, .slice A n c] 30)).cell? ⟨jb, 1, none⟩ = some (.slice A n c) := by rw [hjb.out, cell_of_row _ _ _ _ _ _ (heap_alloc_new W _)]; rfl
  have hR1 : Rd ((W.alloc (.cells #[.int .i64 s, .slice A n c] 30)).alloc (.cells #[] 3)) A n 3 cs cellC := hR.below (by (repeat (first | exact Below.refl _ _ | assumption | (refine Below.drew ?_) | (refine below_drewN ?_ _) | (refine Below.alloc ?_ (by first | exact Nat.le_refl _ | (simp; done) | (simp; omega) | omega) _) | (refine Below.setCell ?_ (by first | exact Nat.le_refl _ | (simp; done) | (simp; omega) | omega) _) | (refine Below.trans ?_ (Below.mono (by assumption) (by first | exact Nat.le_refl _ | (simp; done) | (simp; omega) | omega))))))
  have hjz : jb < (W.alloc (.cells #[.int .i64 s, .slice A n c] 30)).heap.size := by rw [hjb.out]; simp
  have e1a := keepcell e1 ((Below.refl _ _).alloc (Nat.le_refl _) (.cells #[] 3))
  have hacc0 := Acc.lit0 (W.alloc (.cells #[.int .i64 s, .slice A n c] 30)) (W.heap.size + 1) 3 1 intC (by simp) rfl
  have hBa : Below W.heap.size W ((W.alloc (.cells #[.int .i64 s, .slice A n c] 30)).alloc (.cells #[] 3)) := by (repeat (first | exact Below.refl _ _ | assumption | (refine Below.drew ?_) | (refine below_drewN ?_ _) | (refine Below.alloc ?_ (by first | exact Nat.le_refl _ | (simp; done) | (simp; omega) | omega) _) | (refine Below.setCell ?_ (by first | exact Nat.le_refl _ | (simp; done) | (simp; omega) | omega) _) | (refine Below.trans ?_ (Below.mono (by assumption) (by first | exact Nat.le_refl _ | (simp; done) | (simp; omega) | omega)))))
  rcases hok : blockOk s cs with _ | _
  · rw [show colorsOf s cs = [] by unfold colorsOf; rw [hok]; rfl]
    go_enter Try.func29, Try.ntmps29
    go_wp2_with fail
    refine (blockOkS_any _ _ _ _ cs _ hR1 hN).mono ?_
    rintro e w1 ⟨rfl, hb1⟩
    rw [hok]
    go_wp2
    go_ret
    exact ⟨_, 0, rfl, Nat.le_refl _, Own.nil _ _ _ _ _ _, by (repeat (first | exact Below.refl _ _ | assumption | (refine Below.drew ?_) | (refine below_drewN ?_ _) | (refine Below.alloc ?_ (by first | exact Nat.le_refl _ | (simp; done) | (simp; omega) | omega) _) | (refine Below.setCell ?_ (by first | exact Nat.le_refl _ | (simp; done) | (simp; omega) | omega) _) | (refine Below.trans ?_ (Below.mono (by assumption) (by first | exact Nat.le_refl _ | (simp; done) | (simp; omega) | omega)))))⟩
  · rw [show colorsOf s cs = colorsUp cs 6 by unfold colorsOf; rw [hok]; rfl]
    obtain ⟨hs, hl, hall⟩ := block_parts hok
    have hsq := sq_bd hs.1 hs.2
    rw [HLEN.out] at hl
    have hn16 : n ≤ 16 := by omega
    clear hall hl hsq hs
    go_enter Try.func29, Try.ntmps29
    go_wp2_with fail
    rw [← hjb.out]
    refine (blockOkS_any _ _ _ _ cs _ hR1 hN).mono ?_
    rintro e w1 ⟨rfl, hb1⟩
    rw [hok]
    have e1r := keepcell e1a hb1
    have hR2 := hR1.below hb1
    have hz1 := hb1.size
    have hB1 : Below W.heap.size W w1 := by (repeat (first | exact Below.refl _ _ | assumption | (refine Below.drew ?_) | (refine below_drewN ?_ _) | (refine Below.alloc ?_ (by first | exact Nat.le_refl _ | (simp; done) | (simp; omega) | omega) _) | (refine Below.setCell ?_ (by first | exact Nat.le_refl _ | (simp; done) | (simp; omega) | omega) _) | (refine Below.trans ?_ (Below.mono (by assumption) (by first | exact Nat.le_refl _ | (simp; done) | (simp; omega) | omega)))))
    have hzW : W.heap.size ≤ w1.heap.size := hB1.size
    have hacc1 := hacc0.below hb1
    have hsz1 : (W.alloc (.cells #[.int .i64 s, .slice A n c] 30)).heap.size = jb + 1 := by rw [hjb.out]; simp
    rw [hsz1, ← hjb.out] at hacc1
    have hj1 : jb + 1 ≤ w1.heap.size := by have := hz1; simp at this; have := hjb.out; omega
    have hR0 := hR
    clear e1 e1a hR hR1 hz1 hjz hacc0 hBa
    go_wp2
    go_loopw [3, 4] (fun o i wr => ∃ k : Nat, k ≤ 6 ∧ i = .int .i64 (k : Int) ∧ Acc wr (jb + 1) 3 1 o (colorsUp cs k) intC ∧ wr.cell? ⟨jb, 1, none⟩ = some (.slice A n c) ∧ Below W.heap.size W wr ∧ jb + 1 ≤ wr.heap.size) (fun _ i _ => 6 - (intOf i).toNat)
    case atStart => exact ⟨0, by omega, rfl, hacc1, e1r, hB1, hj1⟩
    case round =>
      clear hacc1 e1r hB1 hR2 hj1 hzW hb1
      obtain ⟨k, hk, rfl, hacc, q1, hB, hz⟩ := hrel
      by_cases hlt : k < 6
      · have HS := Lib.hid (colorsUp_succ cs k)
        have hcl := colorsUp_len cs k
        have hRw := hR0.below hB
        go_wp2
        go_loop [5, 6] (fun u i => ∃ j : Nat, j ≤ n ∧ i = .int .i64 (j : Int) ∧ u = .bool ((cs.take j).any (usesC (k : Int)))) (fun _ i => n - (intOf i).toNat)
        case atStart => exact ⟨0, Nat.zero_le _, rfl, rfl⟩
        case round =>
          obtain ⟨j, hj, rfl, rfl⟩ := hrel
          by_cases hlj : j < n
          · obtain ⟨b, off, y, rfl, hbW, hy, g0, g1, g2⟩ := hRw.cell hlj (Below.refl _ _)
            have HT := Lib.hid (any_take_succ (p := usesC (k : Int)) hy)
            clear hy
            obtain ⟨y0, y1, y2⟩ := y
            simp only at g0 g1 g2
            generalize (cs.take j).any (usesC (k : Int)) = u at HT
            rcases u with _ | _
            · rcases hA : (y1 == (k : Int)) with _ | _
              · rcases hBb : (y2 == (k : Int)) with _ | _
                · have HV := Lib.hid (show false = (cs.take (j + 1)).any (usesC (k : Int)) by rw [HT.out]; unfold usesC; rw [hA, hBb]; rfl)
                  go_wp2
                  go_round
                  case rel => exact ⟨j + 1, by omega, by go_num, by rw [← HV.out]⟩
                  case measure => simp [intOf]; omega
                · have HV := Lib.hid (show true = (cs.take (j + 1)).any (usesC (k : Int)) by rw [HT.out]; unfold usesC; rw [hA, hBb]; rfl)
                  go_wp2
                  go_round
                  case rel => exact ⟨j + 1, by omega, by go_num, by rw [← HV.out]⟩
                  case measure => simp [intOf]; omega
              · have HV := Lib.hid (show true = (cs.take (j + 1)).any (usesC (k : Int)) by rw [HT.out]; unfold usesC; rw [hA]; rfl)
                go_wp2
                go_round
                case rel => exact ⟨j + 1, by omega, by go_num, by rw [← HV.out]⟩
                case measure => simp [intOf]; omega
            · have HV := Lib.hid (show true = (cs.take (j + 1)).any (usesC (k : Int)) by rw [HT.out]; rfl)
              go_wp2
              go_round
              case rel => exact ⟨j + 1, by omega, by go_num, by rw [← HV.out]⟩
              case measure => simp [intOf]; omega
          · obtain rfl : j = n := by omega
            have hE : (cs.take j).any (usesC (k : Int)) = isUsed cs (k : Int) := by rw [List.take_of_length_le (Nat.le_of_eq HLEN.out)]; rfl
            rw [hE]
            rcases hus : isUsed cs (k : Int) with _ | _
            · have HE := Lib.hid (show colorsUp cs (k + 1) = colorsUp cs k by rw [HS.out, hus]; simp)
              clear hE
              go_wp2
              go_roundw
              case rel => exact ⟨k + 1, by omega, by go_num, by rw [HE.out]; exact hacc, q1, hB, hz⟩
              case measure => simp [intOf]; omega
            · have HE := Lib.hid (show colorsUp cs (k + 1) = colorsUp cs k ++ [(k : Int)] by rw [HS.out, hus]; rfl)
              clear hE
              go_wp2_with (at_builtin; refine wpList_acc1 rfl _ _ 25 rfl (jb + 1) 3 (.int .i64 0) 1 8 Try.underlying25 infoIntA rfl (by omega) _ _ intC (k : Int) rfl hacc _ _ rfl _ rfl (by simp) rfl (by simp [intC, Value.oneCell']) (by omega) (by omega) hz ?_; intro v' w5 hacc5 hgrow5 hat5)
              go_roundw
              case rel => exact ⟨k + 1, by omega, by go_num, by rw [HE.out]; exact hacc5, near_of hacc hgrow5 q1 (Nat.lt_succ_self _), hacc.grow_below hB hgrow5 (by rw [hjb.out]; omega) (by have := hjb.out; omega), by have := hgrow5.size; omega⟩
              case measure => simp [intOf]; omega
      · obtain rfl : k = 6 := by omega
        go_wp2
        go_ret
        exact hacc.made intC_len (W := W) (by rw [hjb.out]; omega) hB rfl

end Go.Proofs.Ytkbpehklfjnjjaa
