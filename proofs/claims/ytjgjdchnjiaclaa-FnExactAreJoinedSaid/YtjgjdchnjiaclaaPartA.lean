/-
  Contracts over lines: the parts that they make.
-/
import Derived.Test.YtjgjdchnjiaclaaLineB
import Derived.Test.YtjgjdchnjiaclaaUpTo
import Derived.Test.YtjgjdchnjiaclaaSS
import Derived.BigRegion
set_option linter.unusedVariables false
namespace Go.Proofs.Ytjgjdchnjiaclaa
open Go.RowKit

theorem mixed_len {M R : List Int} {n k : Nat} (hM : M.length = n) (hR : R.length = n) (hk : k ≤ n) : (mixed M R k).length = n := by
  unfold mixed
  rw [List.length_append, List.length_take, List.length_drop]
  omega
theorem mixed_here {M R : List Int} {k : Nat} (hk : k ≤ M.length) : (mixed M R k).getD k 0 = R.getD k 0 := by
  unfold mixed
  have h1 : (M.take k).length = k := by rw [List.length_take]; omega
  rw [List.getD_eq_getElem?_getD, List.getElem?_append_right (by omega), h1, Nat.sub_self, List.getElem?_drop, List.getD_eq_getElem?_getD, Nat.add_zero]
theorem mixed_set {M R : List Int} {t : Nat} (hM : t < M.length) (hR : t < R.length) : (mixed M R t).set t (M.getD t 0) = mixed M R (t + 1) := by
  have hr : M[t]? = some (M[t]'hM) := List.getElem?_eq_getElem _
  rw [List.getD_eq_getElem?_getD, hr]
  exact mixed_succ hr hR
theorem set_getD_same {l : List Int} {t : Nat} {v : Int} (h : t < l.length) (e : l.getD t 0 = v) : l.set t v = l := by
  apply List.ext_getElem?
  intro i
  rw [List.getElem?_set]
  by_cases hi : t = i
  · subst hi
    rw [if_pos rfl, if_pos h, ← e, List.getD_eq_getElem?_getD, List.getElem?_eq_getElem h]; rfl
  · rw [if_neg hi]
theorem relax_zero (l : List Line) (L : List Int) : relaxRound (l.take 0) L = L := rfl
theorem relax_end {l : List Line} {n : Nat} (h : l.length = n) (m k : Nat) : relaxRound (l.take n) (relaxN l m k) = relaxN l m (k + 1) := by rw [List.take_of_length_le (by omega)]; rfl

set_option maxRecDepth 100000 in
set_option maxHeartbeats 1000000 in
theorem parts_any (m : Nat) (A : Option Addr) (n c : Nat) (xs : List Line) (W : World) (h : Rd W A n 2 xs lineC) (hn : n ≤ 20) (hm : m ≤ 10) (hm0 : 1 ≤ m) (hok : xs.all (lineOk m) = true) :
    Calls Try.prog 67 #[.int .i64 m, .slice A n c] W (Made W m 1 (mergeAll m xs) intC) := by
  have hlen := Lib.hid h.len
  have HOK := Lib.hid hok
  have hir : InRange xs m := fun x hx => by
    have := lineOk_bd (List.all_eq_true.1 hok x hx)
    unfold ptF ptT
    omega
  have HEQ := Lib.hid (parts_eq hir)
  clear hok
  go_enter Try.func67, Try.ntmps67
  go_wp2_with (go_at_call 70; refine (upTo_any m _ (by omega)).mono ?_; rintro e w1 ⟨A1, c1, rfl, hk1, hO1, hb1⟩)
  obtain ⟨g, T, rfl, hgl, hgw, hP1⟩ := hO1.2 (by omega)
  clear hO1
  go_loopw [12] (fun i wr => ∃ k : Nat, k ≤ m ∧ i = .int .i64 (k : Int) ∧ Part wr g T m 1 (relaxN xs m k) intC m ∧ Below W.heap.size W wr) (fun i _ => m - (intOf i).toNat)
  case atStart => exact ⟨0, Nat.zero_le _, rfl, hP1, hb1⟩
  case round =>
    clear hP1 hgw hb1
    obtain ⟨k, hk, rfl, hP, hB⟩ := hrel
    by_cases hlk : k < m
    · go_wp2
      go_loopw [16] (fun i wr => ∃ j : Nat, j ≤ n ∧ i = .int .i64 (j : Int) ∧ Part wr g T m 1 (relaxRound (xs.take j) (relaxN xs m k)) intC m ∧ Below W.heap.size W wr) (fun i _ => n - (intOf i).toNat)
      case atStart => exact ⟨0, Nat.zero_le _, rfl, by rw [relax_zero]; exact hP, hB⟩
      case round =>
        clear hP hB
        obtain ⟨j, hj, rfl, hP, hB⟩ := hrel
        have hz := hB.size
        have hLl : (relaxRound (xs.take j) (relaxN xs m k)).length = m := by rw [relaxRound_len, relaxN_len]
        by_cases hlt : j < n
        · obtain ⟨b, off, x, rfl, hbW, hx, g0, g1⟩ := h.line hlt hB
          have hST := Lib.hid (relaxRound_succ (L := relaxN xs m k) hx)
          have hxo := lineOk_bd (lineOk_at HOK.out hx)
          clear hx
          obtain ⟨x1, x2⟩ := x
          simp only at g0 g1 hxo
          obtain ⟨⟨p0, p1⟩, ⟨q0, q1⟩, hne⟩ := hxo
          obtain ⟨p, rfl⟩ := Int.eq_ofNat_of_zero_le p0
          obtain ⟨q, rfl⟩ := Int.eq_ofNat_of_zero_le q0
          have hpm : p < m := by omega
          have hqm : q < m := by omega
          have hpq : ¬ p = q := by omega
          have hqp : ¬ q = p := by omega
          clear hne p0 p1 q0 q1
          generalize relaxRound (xs.take j) (relaxN xs m k) = L at hP hST hLl
          have hcp := hP.int_at hLl hpm
          have hcq := hP.int_at hLl hqm
          obtain ⟨vp, hp⟩ : ∃ v, Hid (v = L.getD p 0) := ⟨_, rfl⟩
          obtain ⟨vq, hq⟩ : ∃ v, Hid (v = L.getD q 0) := ⟨_, rfl⟩
          rw [← hp.out] at hcp
          rw [← hq.out] at hcq
          have hf1 : wr.frozen? ⟨g, p, none⟩ = false := hP.frozen _
          have hf2 : wr.frozen? ⟨g, q, none⟩ = false := hP.frozen _
          have hST2 : relaxRound (xs.take (j + 1)) (relaxN xs m k) = (L.set p (min vp vq)).set q (min vp vq) := by rw [hST.out, hp.out, hq.out]; rfl
          have HST2 := Lib.hid hST2
          clear hST hST2
          have hbr : b < wr.heap.size := by omega
          have hgw := hP.lt
          have hgb : ¬ g = b := by omega
          have hbg : ¬ b = g := by omega
          go_wp2
          have hcp1 : (wr.alloc (.cells #[.int .i64 p, .int .i64 q] 62)).cell? ⟨g, p, none⟩ = some (.int .i64 vp) := keepcell hcp ((Below.refl _ _).alloc (Nat.le_refl _) _)
          have hcq1 : (wr.alloc (.cells #[.int .i64 p, .int .i64 q] 62)).cell? ⟨g, q, none⟩ = some (.int .i64 vq) := keepcell hcq ((Below.refl _ _).alloc (Nat.le_refl _) _)
          have hP1 : Part (wr.alloc (.cells #[.int .i64 p, .int .i64 q] 62)) g T m 1 L intC m := hP.below ((Below.refl _ _).alloc (Nat.le_refl _) _)
          have hB1 : Below W.heap.size W (wr.alloc (.cells #[.int .i64 p, .int .i64 q] 62)) := by (repeat (first | exact Below.refl _ _ | assumption | (refine Below.drew ?_) | (refine below_drewN ?_ _) | (refine Below.alloc ?_ (by first | exact Nat.le_refl _ | (simp; done) | (simp; omega) | omega) _) | (refine Below.setCell ?_ (by first | exact Nat.le_refl _ | (simp; done) | (simp; omega) | omega) _) | (refine Below.trans ?_ (Below.mono (by assumption) (by first | exact Nat.le_refl _ | (simp; done) | (simp; omega) | omega)))))
          have hn1 : (wr.alloc (.cells #[.int .i64 p, .int .i64 q] 62)).cell? ⟨wr.heap.size, 0, none⟩ = some (.int .i64 p) := by rw [cell_of_row _ _ _ _ _ _ (heap_alloc_new wr _)]; rfl
          have hn2 : (wr.alloc (.cells #[.int .i64 p, .int .i64 q] 62)).cell? ⟨wr.heap.size, 1, none⟩ = some (.int .i64 q) := by rw [cell_of_row _ _ _ _ _ _ (heap_alloc_new wr _)]; rfl
          generalize wr.alloc (.cells #[.int .i64 p, .int .i64 q] 62) = w1 at hcp1 hcq1 hP1 hB1 hn1 hn2 ⊢
          have hjb : ¬ wr.heap.size = g := by omega
          have hbj : ¬ g = wr.heap.size := by omega
          clear hP hB hcp hcq hf1 hf2 g0 g1
          generalize wr.heap.size = jb at hn1 hn2 hjb hbj hgw ⊢
          have hf1 : w1.frozen? ⟨g, p, none⟩ = false := hP1.frozen _
          have hf2 : w1.frozen? ⟨g, q, none⟩ = false := hP1.frozen _
          obtain ⟨lw, hlw⟩ : ∃ lw, (if vq < vp then vq else vp) = lw := ⟨_, rfl⟩
          have hmin : Hid (lw = min vp vq) := by show lw = min vp vq; rw [← hlw]; split <;> omega
          go_quiet (fail)
          go_wp2
          go_region
          go_wp2
          go_roundw
          case rel =>
            refine ⟨j + 1, by omega, by go_num, ?_, ?_⟩
            · rw [HST2.out, ← hmin.out]
              exact (hP1.int_set _).int_set _
            · (repeat (first | exact Below.refl _ _ | assumption | (refine Below.drew ?_) | (refine below_drewN ?_ _) | (refine Below.alloc ?_ (by first | exact Nat.le_refl _ | (simp; done) | (simp; omega) | omega) _) | (refine Below.setCell ?_ (by first | exact Nat.le_refl _ | (simp; done) | (simp; omega) | omega) _) | (refine Below.trans ?_ (Below.mono (by assumption) (by first | exact Nat.le_refl _ | (simp; done) | (simp; omega) | omega)))))
          case measure => simp [intOf]; omega
        · go_wp2
          go_roundw
          case rel =>
            obtain rfl : j = n := by omega
            exact ⟨k + 1, by omega, by go_num, by rw [← relax_end hlen.out]; exact hP, hB⟩
          case measure => simp [intOf]; omega
    · go_wp2
      go_ret
      obtain rfl : k = m := by omega
      rw [HEQ.out] at hP
      exact ⟨some ⟨g, 0, none⟩, c1, rfl, hk1, ⟨mergeAll_len _ _, fun _ => ⟨g, _, rfl, hgl, hP.lt, hP⟩⟩, hB⟩

theorem l20Parts_any (m : Nat) (A : Option Addr) (n c : Nat) (xs : List Line) (W : World) (h : Rd W A n 2 xs lineC) (hn : n ≤ 20) (hm : m ≤ 10) (hm0 : 1 ≤ m) (hok : xs.all (lineOk m) = true) :
    Calls Try.prog 60 #[.int .i64 m, .slice A n c] W (Made W m 1 (mergeAll m xs) intC) := by
  have hlen := Lib.hid h.len
  have HOK := Lib.hid hok
  clear hok
  have hacc0 := Acc.lit0 W W.heap.size 3 1 intC (Nat.le_refl _) rfl
  go_enter Try.func60, Try.ntmps60
  go_wp2
  go_loopw [5, 6] (fun o i wr => ∃ k : Nat, k ≤ m ∧ i = .int .i64 (k : Int) ∧ Acc wr W.heap.size 3 1 o (ups k) intC ∧ Below W.heap.size W wr) (fun _ i _ => m - (intOf i).toNat)
  case atStart => exact ⟨0, Nat.zero_le _, rfl, hacc0, by (repeat (first | exact Below.refl _ _ | assumption | (refine Below.drew ?_) | (refine below_drewN ?_ _) | (refine Below.alloc ?_ (by first | exact Nat.le_refl _ | (simp; done) | (simp; omega) | omega) _) | (refine Below.setCell ?_ (by first | exact Nat.le_refl _ | (simp; done) | (simp; omega) | omega) _) | (refine Below.trans ?_ (Below.mono (by assumption) (by first | exact Nat.le_refl _ | (simp; done) | (simp; omega) | omega)))))⟩
  case round =>
    clear hacc0
    obtain ⟨k, hk, rfl, hacc, hB⟩ := hrel
    have hz := hB.size
    have hl := ups_len k
    by_cases hlt : k < m
    · go_wp2_with (at_builtin; refine wpList_acc1 rfl _ _ 46 rfl W.heap.size 3 (.int .i64 0) 1 8 Try.underlying46 infoIntA rfl (by omega) _ _ intC (k : Int) rfl hacc _ _ rfl _ rfl (by simp) rfl (by simp [intC, Value.oneCell']) (by omega) (by omega) (by omega) ?_; intro v' w5 hacc5 hgrow5 hat5)
      go_roundw
      case rel => exact ⟨k + 1, by omega, by go_num, by rw [ups_succ]; exact hacc5, hacc.grow_below hB hgrow5 (Nat.le_refl _) hz⟩
      case measure => simp [intOf]; omega
    · obtain rfl : k = m := by omega
      obtain ⟨A1, c1, rfl, hc1, hO⟩ := hacc.own intC_len
      rw [hl] at hc1 hO ⊢
      obtain ⟨g, T, rfl, hgl, hgw, hP1⟩ := hO.2 (by omega)
      clear hO hacc hgw
      go_wp2
      go_loopw [7] (fun i wr => ∃ j : Nat, j ≤ n ∧ i = .int .i64 (j : Int) ∧ Part wr g T k 1 (mergeAll k (xs.take j)) intC k ∧ Below W.heap.size W wr) (fun i _ => n - (intOf i).toNat)
      case atStart => exact ⟨0, Nat.zero_le _, rfl, hP1, hB⟩
      case round =>
        clear hP1 hB
        obtain ⟨j, hj, rfl, hP, hB⟩ := hrel
        have hz := hB.size
        have hLl := mergeAll_len k (xs.take j)
        by_cases hlt : j < n
        · obtain ⟨b, off, x, rfl, hbW, hx, g0, g1⟩ := h.line hlt hB
          have hST := Lib.hid (mergeAll_succ (m := k) hx)
          have hxo := lineOk_bd (lineOk_at HOK.out hx)
          clear hx
          obtain ⟨x1, x2⟩ := x
          simp only at g0 g1 hxo
          obtain ⟨⟨p0, p1⟩, ⟨q0, q1⟩, hne⟩ := hxo
          obtain ⟨p, rfl⟩ := Int.eq_ofNat_of_zero_le p0
          obtain ⟨q, rfl⟩ := Int.eq_ofNat_of_zero_le q0
          have hpm : p < k := by omega
          have hqm : q < k := by omega
          clear hne p0 p1 q0 q1
          generalize mergeAll k (xs.take j) = L at hP hST hLl
          have hcp := hP.int_at hLl hpm
          have hcq := hP.int_at hLl hqm
          obtain ⟨vp, hp⟩ : ∃ v, Hid (v = L.getD p 0) := ⟨_, rfl⟩
          obtain ⟨vq, hq⟩ : ∃ v, Hid (v = L.getD q 0) := ⟨_, rfl⟩
          rw [← hp.out] at hcp
          rw [← hq.out] at hcq
          have HV := Lib.hid (show mergeV L ⟨p, q⟩ = fun v => if v = max vp vq then min vp vq else v from by funext v; rw [hp.out, hq.out]; rfl)
          have hbr : b < wr.heap.size := by omega
          have hML : (mergeStep L ⟨p, q⟩).length = k := by rw [merge_len]; exact hLl
          go_wp2
          go_loopw [10] (fun i wr => ∃ t : Nat, t ≤ k ∧ i = .int .i64 (t : Int) ∧ Part wr g T k 1 (mixed (mergeStep L ⟨p, q⟩) L t) intC k ∧ Below W.heap.size W wr) (fun i _ => k - (intOf i).toNat)
          case atStart => exact ⟨0, Nat.zero_le _, rfl, by rw [mixed_zero]; exact hP, hB⟩
          case round =>
            clear hP hB hcp hcq g0 g1
            obtain ⟨t, ht, rfl, hP, hB⟩ := hrel
            have hz := hB.size
            by_cases hlt : t < k
            · have hct := hP.int_at (mixed_len hML hLl (by omega)) hlt
              rw [mixed_here (by omega)] at hct
              have hft : wr.frozen? ⟨g, t, none⟩ = false := hP.frozen _
              obtain ⟨vt, hvt⟩ : ∃ v, Hid (v = L.getD t 0) := ⟨_, rfl⟩
              rw [← hvt.out] at hct
              have hsuc := mixed_set (M := mergeStep L ⟨p, q⟩) (R := L) (t := t) (by omega) (by omega)
              have hmt : (mergeStep L ⟨p, q⟩).getD t 0 = if vt = max vp vq then min vp vq else vt := by
                unfold mergeStep
                rw [show (L.map (mergeV L ⟨p, q⟩)).getD t 0 = mergeV L ⟨p, q⟩ (lab L t) from lab_map L _ (by omega), HV.out, hvt.out]; rfl
              rw [hmt] at hsuc
              have hkeep : vt ≠ max vp vq → mixed (mergeStep L ⟨p, q⟩) L (t + 1) = mixed (mergeStep L ⟨p, q⟩) L t := fun hh => by
                rw [if_neg hh] at hsuc
                rw [← hsuc, hvt.out]
                exact set_getD_same (by rw [mixed_len hML hLl (by omega)]; exact hlt) (mixed_here (by omega))
              have HSUC := Lib.hid hsuc
              have HKEEP := Lib.hid hkeep
              clear hsuc hkeep hmt
              have hmaxe : (if vp < vq then vq else vp) = max vp vq := by split <;> omega
              have hmine : (if vq < vp then vq else vp) = min vp vq := by split <;> omega
              by_cases hv : vt = max vp vq
              · have hv1 : (vt == if vp < vq then vq else vp) = true := by rw [hmaxe, hv]; simp
                clear hmaxe
                go_wp2
                go_roundw
                case rel =>
                  refine ⟨t + 1, by omega, by go_num, ?_, ?_⟩
                  · have := HSUC.out
                    rw [if_pos hv] at this
                    rw [← this]
                    exact hP.int_set _
                  · (repeat (first | exact Below.refl _ _ | assumption | (refine Below.drew ?_) | (refine below_drewN ?_ _) | (refine Below.alloc ?_ (by first | exact Nat.le_refl _ | (simp; done) | (simp; omega) | omega) _) | (refine Below.setCell ?_ (by first | exact Nat.le_refl _ | (simp; done) | (simp; omega) | omega) _) | (refine Below.trans ?_ (Below.mono (by assumption) (by first | exact Nat.le_refl _ | (simp; done) | (simp; omega) | omega)))))
                case measure => simp [intOf]; omega
              · have hv1 : (vt == if vp < vq then vq else vp) = false := by rw [hmaxe, beq_eq_false_iff_ne]; exact hv
                have HK := Lib.hid (HKEEP.out hv)
                clear hmaxe hv hmine
                go_wp2
                go_roundw
                case rel => exact ⟨t + 1, by omega, by go_num, by rw [HK.out]; exact hP, hB⟩
                case measure => simp [intOf]; omega
            · obtain rfl : t = k := by omega
              rw [mixed_end hML hLl] at hP
              go_wp2
              go_roundw
              case rel => exact ⟨j + 1, by omega, by go_num, by rw [hST.out]; exact hP, hB⟩
              case measure => simp [intOf]; omega
        · go_wp2
          go_ret
          obtain rfl : j = n := by omega
          have hl2 := hlen.out
          rw [List.take_of_length_le (by omega)] at hP
          exact ⟨some ⟨g, 0, none⟩, c1, rfl, hc1, ⟨mergeAll_len _ _, fun _ => ⟨g, _, rfl, hgl, hP.lt, hP⟩⟩, hB⟩

end Go.Proofs.Ytjgjdchnjiaclaa
