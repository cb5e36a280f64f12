/-
  Contracts over lines: how many end at each point; the odd points.
-/
import Derived.Test.YtjgjdchnjiaclaaLineA
import Derived.Test.YtjgjdchnjiaclaaFlatInt
import Derived.Test.YtjgjdchnjiaclaaAcc
set_option linter.unusedVariables false
namespace Go.Proofs.Ytjgjdchnjiaclaa
open Go.RowKit

theorem infoInt : (Try.prog.info? 3).map (fun i => (i.zero, i.size, i.bytes)) = some (some (.int .i64 0), 1, 8) := by kernel_rfl

theorem ends_any (m : Nat) (A : Option Addr) (n c : Nat) (xs : List Line) (W : World) (h : Rd W A n 2 xs lineC) (hn : n ≤ 20) (hm : m ≤ 10) (hok : xs.all (lineOk m) = true) :
    Calls Try.prog 68 #[.int .i64 m, .slice A n c] W (Made W m 1 (endsOf m xs) intC) := by
  have hlen := Lib.hid h.len
  have HOK := Lib.hid hok
  clear hok
  have hmk := mk_eq (P := Try.prog) 46 3 (.int .i64 0) 1 8 Try.underlying46 infoInt m (by omega) (by omega)
  go_enter Try.func68, Try.ntmps68
  go_wp2
  clear hmk
  have hP0 := Part.ints_made W 3 m
  obtain ⟨g, hg⟩ : ∃ g, Hid (g = W.heap.size) := ⟨_, rfl⟩
  rw [← hg.out] at hP0
  rw [show (Addr.mk W.heap.size 0 none) = Addr.mk g 0 none from by rw [hg.out]]
  go_loopw [12] (fun i wr => ∃ k : Nat, k ≤ n ∧ i = .int .i64 k ∧ Below W.heap.size W wr ∧ Part wr g 3 m 1 (endsOf m (xs.take k)) intC m) (fun i _ => n - (intOf i).toNat)
  case atStart => exact ⟨0, Nat.zero_le _, rfl, by (repeat (first | exact Below.refl _ _ | assumption | (refine Below.drew ?_) | (refine below_drewN ?_ _) | (refine Below.alloc ?_ (by first | exact Nat.le_refl _ | (simp; done) | (simp; omega) | omega) _) | (refine Below.setCell ?_ (by first | exact Nat.le_refl _ | (simp; done) | (simp; omega) | omega) _) | (refine Below.trans ?_ (Below.mono (by assumption) (by first | exact Nat.le_refl _ | (simp; done) | (simp; omega) | omega))))), hP0⟩
  case round =>
    obtain ⟨k, hk, rfl, hB, hP⟩ := hrel
    have hz := hB.size
    by_cases hlt : k < n
    · obtain ⟨b, off, x, rfl, hbW, hx, g0, g1⟩ := h.line hlt hB
      have hX := Lib.hid hx
      have hxo := lineOk_bd (lineOk_at HOK.out hx)
      clear hx
      obtain ⟨x1, x2⟩ := x
      simp only at g0 g1 hxo
      obtain ⟨⟨p0, p1⟩, ⟨q0, q1⟩, hne⟩ := hxo
      obtain ⟨p, rfl⟩ := Int.eq_ofNat_of_zero_le p0
      obtain ⟨q, rfl⟩ := Int.eq_ofNat_of_zero_le q0
      have hpm : p < m := by omega
      have hqm : q < m := by omega
      have hpq : ¬ p = q := by omega
      have hqp : ¬ q = p := by omega
      clear hne p0 p1 q0 q1
      have hglt := hP.lt
      have hcp := hP.int_at (endsOf_len _ _) hpm
      have hcq := hP.int_at (endsOf_len _ _) hqm
      have hvp := endsOf_bd m (xs.take k) p
      have hvq := endsOf_bd m (xs.take k) q
      have hkl : (xs.take k).length ≤ k := List.length_take_le _ _
      obtain ⟨vp, hp⟩ : ∃ v, Hid (v = (endsOf m (xs.take k)).getD p 0) := ⟨_, rfl⟩
      obtain ⟨vq, hq⟩ : ∃ v, Hid (v = (endsOf m (xs.take k)).getD q 0) := ⟨_, rfl⟩
      rw [← hp.out] at hcp hvp
      rw [← hq.out] at hcq hvq
      have hvp1 : 0 ≤ vp ∧ vp ≤ 40 := by omega
      have hvq1 : 0 ≤ vq ∧ vq ≤ 40 := by omega
      clear hvp hvq hkl
      have hf1 : wr.frozen? ⟨g, p, none⟩ = false := hP.frozen _
      have hf2 : wr.frozen? ⟨g, q, none⟩ = false := hP.frozen _
      have hst : endsOf m (xs.take (k + 1)) = ((endsOf m (xs.take k)).set p (vp + 1)).set q (vq + 1) := by
        rw [endsOf_succ hX.out, bump2 hpq hp.out hq.out]; rfl
      have hST := Lib.hid hst
      clear hst
      have hbr : b < wr.heap.size := by omega
      have hgb : ¬ g = b := by have := hg.out; omega
      have hbg : ¬ b = g := by omega
      go_wp2
      go_roundw
      case rel =>
        refine ⟨k + 1, by omega, by go_num, ?_, ?_⟩
        · have hgW := hg.out
          (repeat (first | exact Below.refl _ _ | assumption | (refine Below.drew ?_) | (refine below_drewN ?_ _) | (refine Below.alloc ?_ (by first | exact Nat.le_refl _ | (simp; done) | (simp; omega) | omega) _) | (refine Below.setCell ?_ (by first | exact Nat.le_refl _ | (simp; done) | (simp; omega) | omega) _) | (refine Below.trans ?_ (Below.mono (by assumption) (by first | exact Nat.le_refl _ | (simp; done) | (simp; omega) | omega)))))
        · rw [hST.out]
          exact ((hP.int_set _).int_set _).below ((Below.refl _ _).alloc (Nat.le_refl _) _)
      case measure => simp [intOf]; omega
    · go_wp2
      go_ret
      obtain rfl : k = n := by omega
      have hl := hlen.out
      rw [List.take_of_length_le (by omega)] at hP
      exact ⟨some ⟨g, 0, none⟩, m, rfl, Nat.le_refl _, ⟨endsOf_len _ _, fun _ => ⟨g, _, rfl, Nat.le_of_eq hg.out.symm, hP.lt, hP⟩⟩, by (repeat (first | exact Below.refl _ _ | assumption | (refine Below.drew ?_) | (refine below_drewN ?_ _) | (refine Below.alloc ?_ (by first | exact Nat.le_refl _ | (simp; done) | (simp; omega) | omega) _) | (refine Below.setCell ?_ (by first | exact Nat.le_refl _ | (simp; done) | (simp; omega) | omega) _) | (refine Below.trans ?_ (Below.mono (by assumption) (by first | exact Nat.le_refl _ | (simp; done) | (simp; omega) | omega)))))⟩

theorem degrees_any (m : Nat) (A : Option Addr) (n c : Nat) (xs : List Line) (W : World) (h : Rd W A n 2 xs lineC) (hn : n ≤ 20) (hm : m ≤ 10) (hok : xs.all (lineOk m) = true) :
    Calls Try.prog 63 #[.int .i64 m, .slice A n c] W (Made W m 1 (endsOf m xs) intC) := by
  have hlen := Lib.hid h.len
  have HOK := Lib.hid hok
  clear hok
  have hmk := mk_eq (P := Try.prog) 46 3 (.int .i64 0) 1 8 Try.underlying46 infoInt m (by omega) (by omega)
  go_enter Try.func63, Try.ntmps63
  go_wp2
  clear hmk
  have hP0 := Part.ints_made W 3 m
  obtain ⟨g, hg⟩ : ∃ g, Hid (g = W.heap.size) := ⟨_, rfl⟩
  rw [← hg.out] at hP0
  rw [show (Addr.mk W.heap.size 0 none) = Addr.mk g 0 none from by rw [hg.out]]
  go_loopw [6] (fun i wr => ∃ k : Nat, k ≤ n ∧ i = .int .i64 k ∧ Below W.heap.size W wr ∧ Part wr g 3 m 1 (endsOf m (xs.take k)) intC m) (fun i _ => n - (intOf i).toNat)
  case atStart => exact ⟨0, Nat.zero_le _, rfl, by (repeat (first | exact Below.refl _ _ | assumption | (refine Below.drew ?_) | (refine below_drewN ?_ _) | (refine Below.alloc ?_ (by first | exact Nat.le_refl _ | (simp; done) | (simp; omega) | omega) _) | (refine Below.setCell ?_ (by first | exact Nat.le_refl _ | (simp; done) | (simp; omega) | omega) _) | (refine Below.trans ?_ (Below.mono (by assumption) (by first | exact Nat.le_refl _ | (simp; done) | (simp; omega) | omega))))), hP0⟩
  case round =>
    obtain ⟨k, hk, rfl, hB, hP⟩ := hrel
    have hz := hB.size
    by_cases hlt : k < n
    · obtain ⟨b, off, x, rfl, hbW, hx, g0, g1⟩ := h.line hlt hB
      have hX := Lib.hid hx
      have hxo := lineOk_bd (lineOk_at HOK.out hx)
      clear hx
      obtain ⟨x1, x2⟩ := x
      simp only at g0 g1 hxo
      obtain ⟨⟨p0, p1⟩, ⟨q0, q1⟩, hne⟩ := hxo
      obtain ⟨p, rfl⟩ := Int.eq_ofNat_of_zero_le p0
      obtain ⟨q, rfl⟩ := Int.eq_ofNat_of_zero_le q0
      have hpm : p < m := by omega
      have hqm : q < m := by omega
      have hpq : ¬ p = q := by omega
      have hqp : ¬ q = p := by omega
      clear hne p0 p1 q0 q1
      have hglt := hP.lt
      have hcp := hP.int_at (endsOf_len _ _) hpm
      have hcq := hP.int_at (endsOf_len _ _) hqm
      have hvp := endsOf_bd m (xs.take k) p
      have hvq := endsOf_bd m (xs.take k) q
      have hkl : (xs.take k).length ≤ k := List.length_take_le _ _
      obtain ⟨vp, hp⟩ : ∃ v, Hid (v = (endsOf m (xs.take k)).getD p 0) := ⟨_, rfl⟩
      obtain ⟨vq, hq⟩ : ∃ v, Hid (v = (endsOf m (xs.take k)).getD q 0) := ⟨_, rfl⟩
      rw [← hp.out] at hcp hvp
      rw [← hq.out] at hcq hvq
      have hvp1 : 0 ≤ vp ∧ vp ≤ 40 := by omega
      have hvq1 : 0 ≤ vq ∧ vq ≤ 40 := by omega
      clear hvp hvq hkl
      have hf1 : wr.frozen? ⟨g, p, none⟩ = false := hP.frozen _
      have hf2 : wr.frozen? ⟨g, q, none⟩ = false := hP.frozen _
      have hst : endsOf m (xs.take (k + 1)) = ((endsOf m (xs.take k)).set p (vp + 1)).set q (vq + 1) := by
        rw [endsOf_succ hX.out, bump2 hpq hp.out hq.out]; rfl
      have hST := Lib.hid hst
      clear hst
      have hbr : b < wr.heap.size := by omega
      have hgb : ¬ g = b := by have := hg.out; omega
      have hbg : ¬ b = g := by omega
      go_wp2
      go_still_tail 16, (by kernel_rfl)
      change wpList _ _ _ _ _ (World.drew wr)
      have hBd := hB.drew
      go_wp2
      obtain ⟨w1, hw1⟩ : ∃ w1, Hid (w1 = (wr.setCell ⟨g, p, none⟩ (.int .i64 (vp + 1))).drew) := ⟨_, rfl⟩
      rw [← hw1.out]
      have hP1 : Part w1 g 3 m 1 ((endsOf m (xs.take k)).set p (vp + 1)) intC m := by rw [hw1.out]; exact hP.int_set (p := p) (vp + 1)
      have hB1 : Below W.heap.size W w1 := by rw [hw1.out]; exact (hB.setCell (p := ⟨g, p, none⟩) (by have := hg.out; simp; omega) _).drew
      have hc1 : w1.cell? ⟨g, q, none⟩ = some (.int .i64 vq) := by rw [hw1.out]; exact (World.cell?_setCell_other wr _ _ _ (fun e => by injection e; omega)).trans hcq
      have e0 : w1.cell? ⟨b, off + k * 2, none⟩ = some (.int .i64 p) := by rw [hw1.out]; exact (World.cell?_setCell_other wr _ _ _ (fun e => by injection e; omega)).trans g0
      have e1 : w1.cell? ⟨b, off + k * 2 + 1, none⟩ = some (.int .i64 q) := by rw [hw1.out]; exact (World.cell?_setCell_other wr _ _ _ (fun e => by injection e; omega)).trans g1
      have hf3 : w1.frozen? ⟨g, q, none⟩ = false := hP1.frozen _
      have hz1 := hB1.size
      have hg1 := hP1.lt
      clear hP hB hcp hcq g0 g1 hf1 hf2 hBd
      go_still_tail 16, (by kernel_rfl)
      change wpList _ _ _ _ _ (World.drew w1)
      go_wp2
      go_roundw
      case rel =>
        refine ⟨k + 1, by omega, by go_num, ?_, ?_⟩
        · exact (hB1.setCell (by have := hg.out; simp; omega) _).drew
        · rw [hST.out]
          exact (hP1.int_set (vq + 1)).below ((Below.refl _ _).drew)
      case measure => simp [intOf]; omega
    · go_wp2
      go_ret
      obtain rfl : k = n := by omega
      have hl := hlen.out
      rw [List.take_of_length_le (by omega)] at hP
      exact ⟨some ⟨g, 0, none⟩, m, rfl, Nat.le_refl _, ⟨endsOf_len _ _, fun _ => ⟨g, _, rfl, Nat.le_of_eq hg.out.symm, hP.lt, hP⟩⟩, by (repeat (first | exact Below.refl _ _ | assumption | (refine Below.drew ?_) | (refine below_drewN ?_ _) | (refine Below.alloc ?_ (by first | exact Nat.le_refl _ | (simp; done) | (simp; omega) | omega) _) | (refine Below.setCell ?_ (by first | exact Nat.le_refl _ | (simp; done) | (simp; omega) | omega) _) | (refine Below.trans ?_ (Below.mono (by assumption) (by first | exact Nat.le_refl _ | (simp; done) | (simp; omega) | omega)))))⟩

end Go.Proofs.Ytjgjdchnjiaclaa
