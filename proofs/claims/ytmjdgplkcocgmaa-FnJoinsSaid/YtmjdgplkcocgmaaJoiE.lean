/-
  Contract: the joins of a layout, by the reference.
-/
import Derived.Test.YtmjdgplkcocgmaaJoiB
import Derived.Test.YtmjdgplkcocgmaaJoiP
set_option linter.unusedVariables false
set_option linter.unusedSimpArgs false
namespace Go.Proofs.Ytmjdgplkcocgmaa
open Go.RowKit

def JOut (W : World) (l : Lay) (e : Ending) (w' : World) : Prop :=
  ∃ J p q, e = .returned (.tuple #[.slice J p q, .bool (canSew l)]) ∧ p ≤ q ∧ Own w' W.heap.size w'.heap.size J p 3 (joinsOf l) joinC ∧ Below W.heap.size W w'
theorem jout_no {W w' : World} {l : Lay} {J : Option Addr} (h : canSew l = false) (hb : Below W.heap.size W w') : JOut W l (.returned (.tuple #[.slice J 0 0, .bool false])) w' :=
  ⟨J, 0, 0, by rw [h], Nat.le_refl _, by rw [joinsOf_no h]; exact Own.nil _ _ _ _ _ _, hb⟩
theorem jout_yes {W w' : World} {l : Lay} {J : Option Addr} {p q : Nat} (h : canSew l = true) (hpq : p ≤ q) (hO : Own w' W.heap.size w'.heap.size J p 3 (joinsOf l) joinC) (hb : Below W.heap.size W w') : JOut W l (.returned (.tuple #[.slice J p q, .bool true])) w' :=
  ⟨J, p, q, by rw [h], hpq, hO, hb⟩

set_option maxRecDepth 100000 in
set_option maxHeartbeats 4000000 in
theorem joinsOfS_any (w h : Int) (A : Option Addr) (n c : Nat) (ps : List Patch) (W : World) (hR : Rd W A n 5 ps patchC) (hN : n ≤ 1048576) :
    Calls Try.prog 48 #[.agg #[.int .i64 w, .int .i64 h, .slice A n c]] W (JOut W ⟨w, h, ps⟩) := by
  have HLEN := Lib.hid hR.len
  obtain ⟨jb, hjb⟩ : ∃ j, Hid (W.heap.size = j) := ⟨_, rfl⟩
  obtain ⟨wa, hwa⟩ : ∃ v, Hid (W.alloc (.cells #[.int .i64 w, .int .i64 h, .slice A n c] 30) = v) := ⟨_, rfl⟩
  have e0 : wa.cell? ⟨jb, 0, none⟩ = some (.int .i64 w) := by rw [← hwa.out, ← hjb.out, cell_of_row _ _ _ _ _ _ (heap_alloc_new W _)]; rfl
  have e1 : wa.cell? ⟨jb, 1, none⟩ = some (.int .i64 h) := by rw [← hwa.out, ← hjb.out, cell_of_row _ _ _ _ _ _ (heap_alloc_new W _)]; rfl
  have e2 : wa.cell? ⟨jb, 2, none⟩ = some (.slice A n c) := by rw [← hwa.out, ← hjb.out, cell_of_row _ _ _ _ _ _ (heap_alloc_new W _)]; rfl
  have ba : Below W.heap.size W wa := by rw [← hwa.out]; exact (Below.refl _ _).alloc (Nat.le_refl _) _
  have hRa := hR.below ba
  clear hR
  go_enter Try.func48, Try.ntmps48
  go_wp2_with (first | rw [hwa.out] | rw [hjb.out])
  refine (layoutS_any _ _ _ _ _ ps _ hRa hN).mono ?_
  rintro e w1 ⟨rfl, hb1⟩
  replace e0 := keepcell e0 hb1
  replace e1 := keepcell e1 hb1
  replace e2 := keepcell e2 hb1
  have hB1 := ba.trans (hb1.mono ba.size)
  have hs1 := hB1.size
  have hR1 := hRa.below hb1
  clear hb1 ba hRa
  rcases hl : layoutOk w h ps with _ | _
  · have HS := Lib.hid (sew_no (l := ⟨w, h, ps⟩) hl)
    go_wp2
    exact bodyPost_ret (v := .tuple #[.slice (some ⟨w1.heap.size, 0, none⟩) 0 0, .bool false]) (by simp [results, Try.results48, go_sem]) rfl (jout_no HS.out.symm (hB1.trans (Below.mono (B := w1.heap.size) (by (repeat (first | exact Below.refl _ _ | assumption | (refine Below.drew ?_) | (refine below_drewN ?_ _) | (refine Below.alloc ?_ (by first | exact Nat.le_refl _ | (simp; done) | (simp; omega) | omega) _) | (refine Below.setCell ?_ (by first | exact Nat.le_refl _ | (simp; done) | (simp; omega) | omega) _) | (refine Below.trans ?_ (Below.mono (by assumption) (by first | exact Nat.le_refl _ | (simp; done) | (simp; omega) | omega)))))) hs1)))
  have HL := Lib.hid hl
  have hn12 := (layout_parts hl).2.2.1
  rw [HLEN.out] at hn12
  clear hl
  obtain ⟨w2, hw2⟩ : ∃ v, Hid (w1.alloc (.cells #[] 3) = v) := ⟨_, rfl⟩
  obtain ⟨z1, hz1⟩ : ∃ j, Hid (w1.heap.size = j) := ⟨_, rfl⟩
  have hac0 : Acc w2 z1 3 1 (.slice (some ⟨z1, 0, none⟩) 0 0) ([] : List Int) intC := by rw [← hw2.out]; exact Acc.lit0 w1 z1 _ 1 intC (Nat.le_of_eq hz1.out.symm) hz1.out.symm
  have b2 : Below w1.heap.size w1 w2 := by rw [← hw2.out]; exact (Below.refl _ _).alloc (Nat.le_refl _) _
  have hz2 : z1 ≤ w2.heap.size := by have := b2.size; have := hz1.out; omega
  have hz1e : w1.heap.size ≤ z1 := Nat.le_of_eq hz1.out
  go_wp2_with (rw [hw2.out]; (try rw [hz1.out]))
  try rw [hw2.out, hz1.out]
  go_loopw [4, 5] (fun o i wr => ∃ k : Nat, k ≤ n ∧ i = .int .i64 (k : Int) ∧ Acc wr z1 3 1 o (iota k) intC ∧ Below w1.heap.size w1 wr ∧ z1 ≤ wr.heap.size) (fun _ i _ => n - (intOf i).toNat)
  case atStart => exact ⟨0, Nat.zero_le _, rfl, hac0, b2, hz2⟩
  case round =>
    clear hac0 b2 hz2
    obtain ⟨k, hk, rfl, hacc, hB, hzr⟩ := hrel
    have hz := hB.size
    have e2r := keepcell e2 hB
    by_cases hlt : k < n
    · have hln : (iota k).length + 1 ≤ 4294967296 := by rw [iota_len]; omega
      go_wp2_with (at_builtin; refine wpList_acc1 rfl _ _ 42 rfl z1 3 (.int .i64 0) 1 8 Try.underlying42 infoIntA rfl (by omega) _ _ intC (k : Int) rfl hacc _ _ rfl _ rfl (by simp) rfl (by simp [intC, Value.oneCell']) hln (by omega) hzr ?_; intro v' w5 hacc5 hgrow5 hat5; have hB5 := hacc.grow_below hB hgrow5 hz1e hz)
      go_roundw
      case rel => exact ⟨k + 1, by omega, by go_num, by rw [iota_succ]; exact hacc5, hB5, Nat.le_trans hzr hgrow5.size⟩
      case measure => simp [intOf]; omega
    · obtain rfl : n = k := by omega
      have e0r := keepcell e0 hB
      have e1r := keepcell e1 hB
      have hRr := hR1.below hB
      have hBr := hB1.trans (hB.mono hs1)
      obtain ⟨NA, d, rfl, hd, hO⟩ := hacc.own (fun _ => rfl)
      have hNr := hO.rd
      rw [iota_len] at hNr ⊢
      clear hacc hO hd hlt
      go_wp2_with fail
      refine (joinsS_N ps.length w h A n _ ps NA d (iota n) (n : Int) wr (Nat.le_refl _) HL.out hRr hNr (by omega) (by omega)).mono ?_
      rintro e w6 ⟨J, p, q, rfl, hpq, hO6, hb6⟩
      have hB6 := hBr.trans (hb6.mono hBr.size)
      have hO6' := hO6.mono hBr.size (Nat.le_refl _)
      have HE := Lib.hid (joinsOf_at (l := ⟨w, h, ps⟩) HLEN.out)
      rcases hsw : canSew ⟨w, h, ps⟩ with _ | _
      · have HS := Lib.hid hsw
        go_wp2
        exact bodyPost_ret (v := .tuple #[.slice (some ⟨w6.heap.size, 0, none⟩) 0 0, .bool false]) (by simp [results, Try.results48, go_sem]) rfl (jout_no HS.out (hB6.trans (Below.mono (B := w6.heap.size) (by (repeat (first | exact Below.refl _ _ | assumption | (refine Below.drew ?_) | (refine below_drewN ?_ _) | (refine Below.alloc ?_ (by first | exact Nat.le_refl _ | (simp; done) | (simp; omega) | omega) _) | (refine Below.setCell ?_ (by first | exact Nat.le_refl _ | (simp; done) | (simp; omega) | omega) _) | (refine Below.trans ?_ (Below.mono (by assumption) (by first | exact Nat.le_refl _ | (simp; done) | (simp; omega) | omega)))))) hB6.size)))
      · have HS := Lib.hid hsw
        go_wp2
        exact bodyPost_ret (v := .tuple #[.slice J p q, .bool true]) (by simp [results, Try.results48, go_sem]) rfl (jout_yes HS.out hpq (by rw [HE.out]; exact hO6') hB6)

end Go.Proofs.Ytmjdgplkcocgmaa
