/-
  Contracts of pressing: rows that alternate.
-/
import Derived.Test.YtjgjdchnjiaclaaPressA
import Derived.Test.YtjgjdchnjiaclaaAccSS
set_option linter.unusedVariables false
namespace Go.Proofs.Ytjgjdchnjiaclaa
open Go.RowKit

theorem nestedI_any (n m : Int) (up : Bool) (W : World) :
    Calls Try.prog 19 #[.int .i64 n, .int .i64 m, .bool up] W (MadeSS W (nested n m up).length (nested n m up) boolC) := by
  by_cases hw1 : within n 1 12 = true
  · by_cases hw2 : within m 0 11 = true
    · have h1 := within_iff.1 hw1
      have h2 := within_iff.1 hw2
      obtain ⟨p, rfl⟩ := Int.eq_ofNat_of_zero_le (show 0 ≤ n by omega)
      obtain ⟨q, rfl⟩ := Int.eq_ofNat_of_zero_le (show 0 ≤ m by omega)
      rw [nested_yes up (by rw [hw1, hw2]; rfl)]
      go_enter Try.func19, Try.ntmps19
      go_wp2_with (go_at_call 51; refine (within_any _ _ _ _).mono ?_; rintro e w' ⟨rfl, rfl⟩)
      go_loopw [7, 20] (fun o i wr => ∃ (k : Nat) (hs : List Hd), k ≤ p ∧ i = .int .i64 (k : Int) ∧ Acc wr W.heap.size 37 1 o hs hdC ∧ RowsP wr W.heap.size wr.heap.size hs ((List.range k).map (nestRow q up)) boolC ∧ Apart o hs ∧ Below W.heap.size W wr ∧ W.heap.size ≤ wr.heap.size) (fun _ i _ => p - (intOf i).toNat)
      case atStart => exact ⟨0, [], Nat.zero_le _, rfl, Acc.lit0 W W.heap.size 37 1 hdC (Nat.le_refl _) rfl, RowsP.nil _ _ _ _, Apart.nil _, by (repeat (first | exact Below.refl _ _ | assumption | (refine Below.drew ?_) | (refine below_drewN ?_ _) | (refine Below.alloc ?_ (by first | exact Nat.le_refl _ | (simp; done) | (simp; omega) | omega) _) | (refine Below.setCell ?_ (by first | exact Nat.le_refl _ | (simp; done) | (simp; omega) | omega) _) | (refine Below.trans ?_ (Below.mono (by assumption) (by first | exact Nat.le_refl _ | (simp; done) | (simp; omega) | omega))))), by simp⟩
      case round =>
        obtain ⟨k, hs, hk, rfl, hacc, hrows, hap, hB, hz⟩ := hrel
        by_cases hlt : k < p
        · obtain ⟨x, hx⟩ : ∃ x, Hid (x = (up == ((k : Int) % 2 == 0))) := ⟨_, rfl⟩
          have hx' := hx.out.symm
          obtain ⟨mid, hmid⟩ : ∃ g, Hid (g = wr.heap.size) := ⟨_, rfl⟩
          have hacc0 := Acc.lit0 wr mid 4 1 boolC (Nat.le_of_eq hmid.out) rfl
          have hB0 : Below mid wr (wr.alloc (.cells #[] 4)) := (Below.refl _ _).alloc (Nat.le_of_eq hmid.out) _
          have hz0 : mid ≤ (wr.alloc (.cells #[] 4)).heap.size := by rw [hmid.out]; simp
          go_wp2
          go_loopw [9, 25] (fun o i w2 => ∃ j : Nat, j ≤ q ∧ i = .int .i64 (j : Int) ∧ Acc w2 mid 4 1 o (List.replicate j x) boolC ∧ Below mid wr w2 ∧ mid ≤ w2.heap.size) (fun _ i _ => q - (intOf i).toNat)
          case atStart => exact ⟨0, Nat.zero_le _, rfl, hacc0, hB0, hz0⟩
          case round =>
            obtain ⟨j, hj, rfl, hacc2, hB2, hz2⟩ := hrel
            by_cases hlj : j < q
            · have hl : (List.replicate j x).length = j := List.length_replicate ..
              go_wp2_with (at_builtin; refine wpList_acc1 rfl _ _ 37 rfl mid 4 (.bool false) 1 1 Try.underlying37 infoBool rfl (by omega) _ _ boolC x rfl hacc2 _ _ rfl _ rfl (by simp) rfl (by simp [boolC, Value.oneCell']) (by omega) (by omega) (by omega) ?_; intro v' w3 hacc3 hgrow hat)
              go_roundw
              case rel =>
                exact ⟨j + 1, by omega, by go_num, by rw [List.replicate_succ']; exact hacc3, hacc2.grow_below hB2 hgrow (Nat.le_refl _) hz2, by have := hgrow.size; omega⟩
              case measure => simp [intOf]; omega
            · obtain rfl : j = q := by omega
              obtain ⟨A', c', rfl, hc', hO⟩ := hacc2.own boolC_len
              rw [List.length_replicate] at hc' hO ⊢
              rw [hmid.out] at hB2 hO hz2
              have hl : hs.length = k := by rw [hrows.1]; simp
              have hrows2 := (hrows.below hB2).push (x := ⟨A', j, c'⟩) (r := nestRow j up k) hc' (by unfold nestRow; rw [← hx.out]; exact hO) hz hz2
              rw [← nested_succ] at hrows2
              have hap2 : Apart _ (hs ++ [⟨A', j, c'⟩]) := hap.push (x := ⟨A', j, c'⟩) (by exact hO) (fun g hg => (hacc.row hg).2)
              have hacc4 := hacc.below hB2
              have hB4 : Below W.heap.size W _ := hB.trans (hB2.mono hz)
              have hz4 := Nat.le_trans hz hz2
              go_wp2_with (at_builtin; refine wpList_acc1 rfl _ _ 22 rfl W.heap.size 37 (.slice none 0 0) 1 24 Try.underlying22 infoBools rfl (by omega) _ _ hdC ⟨A', j, c'⟩ rfl hacc4 _ _ rfl _ rfl (by simp) rfl (by simp [hdC, Value.oneCell']) (by omega) (by omega) (by omega) ?_; intro v' w3 hacc3 hgrow hat)
              go_roundw
              case rel =>
                have hr3 := hrows2.app hgrow hap2
                exact ⟨k + 1, _, by omega, by go_num, hacc3, hr3.mono (Nat.le_refl _) hgrow.size, hap2.next hat hr3 (Nat.le_succ _), hacc4.grow_below hB4 hgrow (Nat.le_refl _) hz4, by have := hgrow.size; omega⟩
              case measure => simp [intOf]; omega
        · go_wp2
          go_ret
          obtain rfl : k = p := by omega
          exact hacc.madeSS hrows hap hB rfl
    · have hw2' : within m 0 11 = false := by simpa using hw2
      rw [nested_no up (by rw [hw2', Bool.and_false])]
      go_enter Try.func19, Try.ntmps19
      go_wp2_with (go_at_call 51; refine (within_any _ _ _ _).mono ?_; rintro e w' ⟨rfl, rfl⟩)
      go_ret
      exact (Acc.nil W W.heap.size 37 1 hdC).madeSS (RowsP.nil _ _ _ _) (Apart.nil _) (by (repeat (first | exact Below.refl _ _ | assumption | (refine Below.drew ?_) | (refine below_drewN ?_ _) | (refine Below.alloc ?_ (by first | exact Nat.le_refl _ | (simp; done) | (simp; omega) | omega) _) | (refine Below.setCell ?_ (by first | exact Nat.le_refl _ | (simp; done) | (simp; omega) | omega) _) | (refine Below.trans ?_ (Below.mono (by assumption) (by first | exact Nat.le_refl _ | (simp; done) | (simp; omega) | omega)))))) rfl
  · have hw1' : within n 1 12 = false := by simpa using hw1
    rw [nested_no up (by rw [hw1', Bool.false_and])]
    go_enter Try.func19, Try.ntmps19
    go_wp2_with (go_at_call 51; refine (within_any _ _ _ _).mono ?_; rintro e w' ⟨rfl, rfl⟩)
    go_ret
    exact (Acc.nil W W.heap.size 37 1 hdC).madeSS (RowsP.nil _ _ _ _) (Apart.nil _) (by (repeat (first | exact Below.refl _ _ | assumption | (refine Below.drew ?_) | (refine below_drewN ?_ _) | (refine Below.alloc ?_ (by first | exact Nat.le_refl _ | (simp; done) | (simp; omega) | omega) _) | (refine Below.setCell ?_ (by first | exact Nat.le_refl _ | (simp; done) | (simp; omega) | omega) _) | (refine Below.trans ?_ (Below.mono (by assumption) (by first | exact Nat.le_refl _ | (simp; done) | (simp; omega) | omega)))))) rfl

theorem nestedS_any (n m : Int) (up : Bool) (W : World) :
    Calls Try.prog 18 #[.int .i64 n, .int .i64 m, .bool up] W (MadeSS W (nested n m up).length (nested n m up) boolC) := by
  by_cases hw1 : within n 1 12 = true
  · by_cases hw2 : within m 0 11 = true
    · have h1 := within_iff.1 hw1
      have h2 := within_iff.1 hw2
      obtain ⟨p, rfl⟩ := Int.eq_ofNat_of_zero_le (show 0 ≤ n by omega)
      obtain ⟨q, rfl⟩ := Int.eq_ofNat_of_zero_le (show 0 ≤ m by omega)
      rw [nested_yes up (by rw [hw1, hw2]; rfl)]
      go_enter Try.func18, Try.ntmps18
      go_wp2_with (go_at_call 49; refine (l01In_any _ _ _ _).mono ?_; rintro e w' ⟨rfl, rfl⟩)
      go_loopw [7, 8] (fun o i wr => ∃ (k : Nat) (hs : List Hd), k ≤ p ∧ i = .int .i64 (k : Int) ∧ Acc wr W.heap.size 37 1 o hs hdC ∧ RowsP wr W.heap.size wr.heap.size hs ((List.range k).map (nestRow q up)) boolC ∧ Apart o hs ∧ Below W.heap.size W wr ∧ W.heap.size ≤ wr.heap.size) (fun _ i _ => p - (intOf i).toNat)
      case atStart => exact ⟨0, [], Nat.zero_le _, rfl, Acc.lit0 W W.heap.size 37 1 hdC (Nat.le_refl _) rfl, RowsP.nil _ _ _ _, Apart.nil _, by (repeat (first | exact Below.refl _ _ | assumption | (refine Below.drew ?_) | (refine below_drewN ?_ _) | (refine Below.alloc ?_ (by first | exact Nat.le_refl _ | (simp; done) | (simp; omega) | omega) _) | (refine Below.setCell ?_ (by first | exact Nat.le_refl _ | (simp; done) | (simp; omega) | omega) _) | (refine Below.trans ?_ (Below.mono (by assumption) (by first | exact Nat.le_refl _ | (simp; done) | (simp; omega) | omega))))), by simp⟩
      case round =>
        obtain ⟨k, hs, hk, rfl, hacc, hrows, hap, hB, hz⟩ := hrel
        by_cases hlt : k < p
        · obtain ⟨x, hx⟩ : ∃ x, Hid (x = (up == ((k : Int) % 2 == 0))) := ⟨_, rfl⟩
          have hx' := hx.out.symm
          have hmk := mk_eq (P := Try.prog) 37 4 (.bool false) 1 1 Try.underlying37 (by kernel_rfl) q (by omega) (by omega)
          obtain ⟨mid, hmid⟩ : ∃ g, Hid (g = wr.heap.size) := ⟨_, rfl⟩
          have hP0 := Part.made wr (Value.cells (.bool false)) 4 q 1 (nestRow q up k) boolC
          rw [Nat.mul_one, ← hmid.out] at hP0
          have hB0 : Below mid wr (wr.alloc (.cells (madeCells (Value.cells (.bool false)) q) 4)) := (Below.refl _ _).alloc (Nat.le_of_eq hmid.out) _
          have hxl : ∀ j, j < q → (nestRow q up k)[j]? = some x := fun j hj => by unfold nestRow; rw [List.getElem?_replicate, if_pos hj, hx.out]
          go_wp2
          clear hmk
          rw [show (Addr.mk wr.heap.size 0 none) = Addr.mk mid 0 none from by rw [hmid.out]]
          go_loopw [10] (fun i w2 => ∃ j : Nat, j ≤ q ∧ i = .int .i64 (j : Int) ∧ Below mid wr w2 ∧ Part w2 mid 4 q 1 (nestRow q up k) boolC j) (fun i _ => q - (intOf i).toNat)
          case atStart => exact ⟨0, Nat.zero_le _, rfl, hB0, hP0⟩
          case round =>
            obtain ⟨j, hj, rfl, hB2, hP⟩ := hrel
            have hglt := hP.lt
            by_cases hlj : j < q
            · obtain ⟨v0, hv0⟩ := hP.cell (o := j) (by omega)
              have hp0 : wr.frozen? ⟨mid, j, none⟩ = false := hP.frozen _
              go_wp2
              go_roundw
              case rel =>
                have hst := hP.store (k := j) (hxl j hlj) boolC_len hlj
                have hbe := below_setRow hB2 (g := mid) (Nat.le_refl _) (j * 1) (boolC x)
                simp only [boolC, setRow, Nat.mul_one] at hst hbe
                exact ⟨j + 1, by omega, by go_num, hbe, hst⟩
              case measure => simp [intOf]; omega
            · obtain rfl : j = q := by omega
              have hO : Own wr mid wr.heap.size (some ⟨mid, 0, none⟩) j 1 (nestRow j up k) boolC := ⟨by simp [nestRow], fun _ => ⟨mid, _, rfl, Nat.le_refl _, hP.lt, hP⟩⟩
              have hz2 := Nat.le_of_lt hglt
              rw [hmid.out] at hB2 hz2
              have hO := hO.mono (lo' := mid) (Nat.le_refl _) (Nat.le_refl _)
              have hl : hs.length = k := by rw [hrows.1]; simp
              have hrows2 := (hrows.below hB2).push (x := ⟨some ⟨mid, 0, none⟩, j, j⟩) (r := nestRow j up k) (Nat.le_refl _) (by rw [← hmid.out]; exact hO) hz hz2
              rw [← nested_succ] at hrows2
              have hap2 : Apart _ (hs ++ [⟨some ⟨mid, 0, none⟩, j, j⟩]) := hap.push (x := ⟨some ⟨mid, 0, none⟩, j, j⟩) (by exact hO) (fun g hg => by rw [hmid.out]; exact (hacc.row hg).2)
              have hacc4 := hacc.below hB2
              have hB4 : Below W.heap.size W _ := hB.trans (hB2.mono hz)
              have hz4 := Nat.le_trans hz hz2
              go_wp2_with (at_builtin; refine wpList_acc1 rfl _ _ 22 rfl W.heap.size 37 (.slice none 0 0) 1 24 Try.underlying22 infoBools rfl (by omega) _ _ hdC ⟨some ⟨mid, 0, none⟩, j, j⟩ rfl hacc4 _ _ rfl _ rfl (by simp) rfl (by simp [hdC, Value.oneCell']) (by omega) (by omega) (by omega) ?_; intro v' w3 hacc3 hgrow hat)
              go_roundw
              case rel =>
                have hr3 := hrows2.app hgrow hap2
                exact ⟨k + 1, _, by omega, by go_num, hacc3, hr3.mono (Nat.le_refl _) hgrow.size, hap2.next hat hr3 (Nat.le_succ _), hacc4.grow_below hB4 hgrow (Nat.le_refl _) hz4, by have := hgrow.size; omega⟩
              case measure => simp [intOf]; omega
        · go_wp2
          go_ret
          obtain rfl : k = p := by omega
          exact hacc.madeSS hrows hap hB rfl
    · have hw2' : within m 0 11 = false := by simpa using hw2
      rw [nested_no up (by rw [hw2', Bool.and_false])]
      go_enter Try.func18, Try.ntmps18
      go_wp2_with (go_at_call 49; refine (l01In_any _ _ _ _).mono ?_; rintro e w' ⟨rfl, rfl⟩)
      go_ret
      exact (Acc.lit0 W W.heap.size 37 1 hdC (Nat.le_refl _) rfl).madeSS (RowsP.nil _ _ _ _) (Apart.nil _) (by (repeat (first | exact Below.refl _ _ | assumption | (refine Below.drew ?_) | (refine below_drewN ?_ _) | (refine Below.alloc ?_ (by first | exact Nat.le_refl _ | (simp; done) | (simp; omega) | omega) _) | (refine Below.setCell ?_ (by first | exact Nat.le_refl _ | (simp; done) | (simp; omega) | omega) _) | (refine Below.trans ?_ (Below.mono (by assumption) (by first | exact Nat.le_refl _ | (simp; done) | (simp; omega) | omega)))))) rfl
  · have hw1' : within n 1 12 = false := by simpa using hw1
    rw [nested_no up (by rw [hw1', Bool.false_and])]
    go_enter Try.func18, Try.ntmps18
    go_wp2_with (go_at_call 49; refine (l01In_any _ _ _ _).mono ?_; rintro e w' ⟨rfl, rfl⟩)
    go_ret
    exact (Acc.lit0 W W.heap.size 37 1 hdC (Nat.le_refl _) rfl).madeSS (RowsP.nil _ _ _ _) (Apart.nil _) (by (repeat (first | exact Below.refl _ _ | assumption | (refine Below.drew ?_) | (refine below_drewN ?_ _) | (refine Below.alloc ?_ (by first | exact Nat.le_refl _ | (simp; done) | (simp; omega) | omega) _) | (refine Below.setCell ?_ (by first | exact Nat.le_refl _ | (simp; done) | (simp; omega) | omega) _) | (refine Below.trans ?_ (Below.mono (by assumption) (by first | exact Nat.le_refl _ | (simp; done) | (simp; omega) | omega)))))) rfl

theorem nested_small (n m : Int) (up : Bool) : (nested n m up).length ≤ 12 ∧ lens (nested n m up) ≤ 132 ∧ ∀ r ∈ nested n m up, r.length ≤ 11 := by
  unfold nested
  split
  · rename_i h
    rw [Bool.and_eq_true] at h
    have h1 := within_iff.1 h.1
    have h2 := within_iff.1 h.2
    have h3 : ∀ r ∈ (List.range n.toNat).map (nestRow m.toNat up), r.length ≤ 11 := fun r hr => by
      obtain ⟨i, _, rfl⟩ := List.mem_map.1 hr
      unfold nestRow
      rw [List.length_replicate]
      omega
    have h4 : ∀ rows : List (List Bool), (∀ r ∈ rows, r.length ≤ 11) → lens rows ≤ 11 * rows.length := fun rows => by
      induction rows with
      | nil => intro _; simp [lens]
      | cons r rows ih =>
        intro h
        have h5 := ih fun r' hr' => h r' (List.mem_cons_of_mem _ hr')
        have h6 := h r (List.mem_cons_self ..)
        simp only [lens, List.map_cons, List.sum_cons, List.length_cons] at h5 ⊢
        omega
    have h5 := h4 _ h3
    rw [List.length_map, List.length_range] at h5
    refine ⟨?_, by omega, h3⟩
    rw [List.length_map, List.length_range]
    omega
  · exact ⟨by decide, by decide, fun r hr => by cases hr⟩

end Go.Proofs.Ytjgjdchnjiaclaa
