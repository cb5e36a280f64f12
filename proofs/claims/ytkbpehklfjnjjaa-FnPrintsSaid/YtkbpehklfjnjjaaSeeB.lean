/-
  Contracts: the colors that may not be turned.
-/
import Derived.Test.YtkbpehklfjnjjaaSeeA
set_option linter.unusedVariables false
namespace Go.Proofs.Ytkbpehklfjnjjaa
open Go.RowKit

theorem stiff_eq {s : Int} {cs : List Cell} {ks : List Int} (h : printsOk ks = true) : stiffOf s cs ks = (colorsOf s cs).filter (isStiff ks) := by
  unfold stiffOf
  cases hb : blockOk s cs
  · rw [show colorsOf s cs = [] by unfold colorsOf; rw [hb]; rfl]; rfl
  · rw [h]; rfl
theorem stiff_no {s : Int} {cs : List Cell} {ks : List Int} (h : printsOk ks = false) : stiffOf s cs ks = [] := by
  unfold stiffOf
  rw [h, Bool.and_false]; rfl
theorem stiff_no2 {s : Int} {cs : List Cell} {ks : List Int} (h : blockOk s cs = false) : stiffOf s cs ks = [] := by
  unfold stiffOf
  rw [h]; rfl

set_option maxRecDepth 100000 in
set_option maxHeartbeats 1000000 in
theorem stiffI_any (s : Int) (A : Option Addr) (n c : Nat) (cs : List Cell) (B : Option Addr) (m d : Nat) (ks : List Int) (W : World) (hR : Rd W A n 3 cs cellC) (hN : n ≤ 1048576) (hK : Rd W B m 1 ks intC) (hM : m ≤ 1048576) :
    Calls Try.prog 17 #[.agg #[.int .i64 s, .slice A n c], .slice B m d] W (Made W (stiffOf s cs ks).length 1 (stiffOf s cs ks) intC) := by
  obtain ⟨jb, hjb⟩ : ∃ j, Hid (j = W.heap.size) := ⟨_, rfl⟩
  have e0 : (W.alloc (.cells #[.int .i64 s, .slice A n c] 30)).cell? ⟨jb, 0, none⟩ = some (.int .i64 s) := by rw [hjb.out, cell_of_row _ _ _ _ _ _ (heap_alloc_new W _)]; rfl
  have e1 : (W.alloc (.cells #[.int .i64 s, .slice A n c] 30)).cell? ⟨jb, 1, none⟩ = some (.slice A n c) := by rw [hjb.out, cell_of_row _ _ _ _ _ _ (heap_alloc_new W _)]; rfl
  have hR1 : Rd (W.alloc (.cells #[.int .i64 s, .slice A n c] 30)) A n 3 cs cellC := hR.below ((Below.refl _ _).alloc (Nat.le_refl _) _)
  have hK1 : Rd (W.alloc (.cells #[.int .i64 s, .slice A n c] 30)) B m 1 ks intC := hK.below ((Below.refl _ _).alloc (Nat.le_refl _) _)
  have hBW : Below W.heap.size W (W.alloc (.cells #[.int .i64 s, .slice A n c] 30)) := (Below.refl _ _).alloc (Nat.le_refl _) _
  have hsW : W.heap.size ≤ (W.alloc (.cells #[.int .i64 s, .slice A n c] 30)).heap.size := by simp
  have hM4 : m ≤ 4194304 := by omega
  rcases hb : blockOk s cs with _ | _
  · rw [stiff_no2 hb]
    go_enter Try.func17, Try.ntmps17
    go_wp2_with fail
    refine (blockOkI_any _ _ _ _ cs _ hR1 hN).mono ?_
    rintro e w1 ⟨rfl, hb1⟩
    rw [hb]
    go_wp2
    go_ret
    exact ⟨none, 0, rfl, Nat.le_refl _, Own.nil _ _ _ _ _ _, by (repeat (first | exact Below.refl _ _ | assumption | (refine Below.drew ?_) | (refine below_drewN ?_ _) | (refine Below.alloc ?_ (by first | exact Nat.le_refl _ | (simp; done) | (simp; omega) | omega) _) | (refine Below.setCell ?_ (by first | exact Nat.le_refl _ | (simp; done) | (simp; omega) | omega) _) | (refine Below.trans ?_ (Below.mono (by assumption) (by first | exact Nat.le_refl _ | (simp; done) | (simp; omega) | omega)))))⟩
  rcases hp : printsOk ks with _ | _
  · rw [stiff_no hp]
    go_enter Try.func17, Try.ntmps17
    go_wp2_with fail
    refine (blockOkI_any _ _ _ _ cs _ hR1 hN).mono ?_
    rintro e w1 ⟨rfl, hb1⟩
    rw [hb]
    go_wp2_with fail
    refine (printsOkI_any _ _ _ ks _ (hK1.below hb1) hM4).mono ?_
    rintro e w2 ⟨rfl, hb2⟩
    rw [hp]
    have hz1 := hb1.size
    go_wp2
    go_ret
    exact ⟨none, 0, rfl, Nat.le_refl _, Own.nil _ _ _ _ _ _, (hBW.trans (hb1.mono hsW)).trans (hb2.mono (by omega))⟩
  · rw [stiff_eq hp]
    have HM6 := Lib.hid (show m = 6 by have := prints_len hp; rw [hK.len] at this; exact this)
    have hcl := colors_len s cs
    go_enter Try.func17, Try.ntmps17
    go_wp2_with fail
    rw [← hjb.out]
    refine (blockOkI_any _ _ _ _ cs _ hR1 hN).mono ?_
    rintro e w1 ⟨rfl, hb1⟩
    rw [hb]
    have hz1 := hb1.size
    go_wp2_with fail
    refine (printsOkI_any _ _ _ ks _ (hK1.below hb1) hM4).mono ?_
    rintro e w2 ⟨rfl, hb2⟩
    rw [hp]
    have hz2 := hb2.size
    have q0 := keepcell (keepcell e0 hb1) hb2
    have q1 := keepcell (keepcell e1 hb1) hb2
    have hjw : jb < w2.heap.size := by have := hjb.out; simp at hsW hz1; omega
    have hBW2 : Below W.heap.size W w2 := (hBW.trans (hb1.mono hsW)).trans (hb2.mono (by omega))
    have hK2 := (hK1.below hb1).below hb2
    have hR2 := ((hR1.below hb1).below hb2).below ((Below.refl _ _).alloc (Nat.le_refl _) (.cells #[] 3))
    have hacc0 := Acc.lit0 w2 w2.heap.size 3 1 intC (Nat.le_refl _) rfl
    have hba : Below w2.heap.size w2 (w2.alloc (.cells #[] 3)) := (Below.refl _ _).alloc (Nat.le_refl _) _
    clear e0 e1 hb1 hb2 hR1 hK1 hBW hsW hb hp hz1 hz2
    go_wp2_with fail
    refine (colorsI_any _ _ _ _ cs _ hR2 hN).mono ?_
    rintro e w3 ⟨A3, c3, rfl, hk3, hO3, hb3⟩
    have hz3 := hb3.size
    simp at hz3
    have hacc3 := hacc0.below hb3
    have hB3 : Below w2.heap.size w2 w3 := hba.trans (hb3.mono (by simp))
    obtain ⟨cols, hcols⟩ : ∃ l, Hid (l = colorsOf s cs) := ⟨_, rfl⟩
    have hCB : ∀ a ∈ cols, 0 ≤ a ∧ a ≤ 5 := fun a ha => by rw [hcols.out] at ha; exact colors_bd ha
    rw [← hcols.out] at hO3 hcl ⊢
    obtain ⟨lo, hlo⟩ : ∃ lo, Hid (lo = w2.heap.size + 1) := ⟨_, rfl⟩
    obtain ⟨hi, hhi⟩ : ∃ hi, Hid (hi = w3.heap.size) := ⟨_, rfl⟩
    have hO : Own w3 lo hi A3 cols.length 1 cols intC := hO3.mono (by rw [hlo.out]; simp) (by rw [hhi.out]; exact Nat.le_refl _)
    clear hO3 hacc0 hb3 hba hR2 q0 q1
    go_wp2_with fail
    go_loopw [5, 20] (fun o i wr => ∃ j : Nat, j ≤ cols.length ∧ i = .int .i64 (j : Int) ∧ Acc wr w2.heap.size 3 1 o ((cols.take j).filter (isStiff ks)) intC ∧ Sep o lo hi ∧ Own wr lo hi A3 cols.length 1 cols intC ∧ Below w2.heap.size w2 wr ∧ hi ≤ wr.heap.size) (fun _ i _ => cols.length - (intOf i).toNat)
    case atStart => exact ⟨0, Nat.zero_le _, rfl, hacc3, Sep.at_ (.inl (by have := hlo.out; omega)), hO, hB3, Nat.le_of_eq hhi.out⟩
    case round =>
      clear hacc3 hO hB3
      obtain ⟨j, hj, rfl, hacc, hsep, hO, hB, hhi'⟩ := hrel
      have hz := hB.size
      by_cases hlt : j < cols.length
      · obtain ⟨b, off, x, rfl, hbW, hx, g0⟩ := hO.rd.int hlt (Below.refl _ _)
        have hxb := hCB _ (List.mem_of_getElem? hx)
        obtain ⟨p, rfl⟩ := Int.eq_ofNat_of_zero_le hxb.1
        have hp6 : p < m := by have := HM6.out; omega
        obtain ⟨b2, off2, y, rfl, hbW2, hy, k0⟩ := hK2.int hp6 hB
        have HKA := Lib.hid (show isStiff ks (p : Int) = (y == 2) by unfold isStiff kindAt; rw [Int.toNat_natCast, List.getD_eq_getElem?_getD, hy]; rfl)
        have HF := Lib.hid (filter_take_succ (p := isStiff ks) hx)
        have hfl := filter_take_len (isStiff ks) cols j
        clear hx hy
        have hpm : (p : Int) < (m : Int) := by omega
        rcases hy2 : (y == 2) with _ | _
        · have HE := Lib.hid (show (cols.take (j + 1)).filter (isStiff ks) = (cols.take j).filter (isStiff ks) by rw [HF.out, HKA.out, hy2]; simp)
          go_wp2
          go_roundw
          case rel => exact ⟨j + 1, by omega, by go_num, by rw [HE.out]; exact hacc, hsep, hO, hB, hhi'⟩
          case measure => simp [intOf]; omega
        · have HE := Lib.hid (show (cols.take (j + 1)).filter (isStiff ks) = (cols.take j).filter (isStiff ks) ++ [(p : Int)] by rw [HF.out, HKA.out, hy2]; rfl)
          go_wp2_with (at_builtin; refine wpList_acc1 rfl _ _ 25 rfl w2.heap.size 3 (.int .i64 0) 1 8 Try.underlying25 infoIntA rfl (by omega) _ _ intC (p : Int) rfl hacc _ _ rfl _ rfl (by simp) rfl (by simp [intC, Value.oneCell']) (by omega) (by omega) hz ?_; intro v' w5 hacc5 hgrow5 hat5)
          go_roundw
          case rel => exact ⟨j + 1, by omega, by go_num, by rw [HE.out]; exact hacc5, hsep.next hat5 (by omega), hO.app hgrow5 hsep, hacc.grow_below hB hgrow5 (Nat.le_refl _) hz, by have := hgrow5.size; omega⟩
          case measure => simp [intOf]; omega
      · obtain rfl : j = cols.length := by omega
        rw [List.take_length] at hacc
        go_wp2
        go_ret
        have hM := hacc.made intC_len (W := W) hBW2.size (hBW2.trans (hB.mono hBW2.size)) rfl
        rw [hcols.out] at hM
        exact hM

set_option maxRecDepth 100000 in
set_option maxHeartbeats 1000000 in
theorem stiffS_any (s : Int) (A : Option Addr) (n c : Nat) (cs : List Cell) (B : Option Addr) (m d : Nat) (ks : List Int) (W : World) (hR : Rd W A n 3 cs cellC) (hN : n ≤ 1048576) (hK : Rd W B m 1 ks intC) (hM : m ≤ 1048576) :
    Calls Try.prog 16 #[.agg #[.int .i64 s, .slice A n c], .slice B m d] W (Made W (stiffOf s cs ks).length 1 (stiffOf s cs ks) intC) := by
  have hcl := colors_len s cs
  have hM4 : m ≤ 4194304 := by omega
  obtain ⟨w2, hw2⟩ : ∃ w, Hid (w = W.alloc (.cells #[.int .i64 s, .slice A n c] 30)) := ⟨_, rfl⟩
  have hBW2 : Below W.heap.size W w2 := by rw [hw2.out]; exact (Below.refl _ _).alloc (Nat.le_refl _) _
  have hK2 : Rd w2 B m 1 ks intC := hK.below hBW2
  have hR2 : Rd (w2.alloc (.cells #[] 3)) A n 3 cs cellC := (hR.below hBW2).below ((Below.refl _ _).alloc (Nat.le_refl _) _)
  have hacc0 := Acc.lit0 w2 w2.heap.size 3 1 intC (Nat.le_refl _) rfl
  have hba : Below w2.heap.size w2 (w2.alloc (.cells #[] 3)) := (Below.refl _ _).alloc (Nat.le_refl _) _
  go_enter Try.func16, Try.ntmps16
  go_wp2_with fail
  have hsz2 : W.heap.size + 1 = w2.heap.size := by rw [hw2.out]; simp
  rw [hsz2, ← hw2.out]
  refine (colorsS_any _ _ _ _ cs _ hR2 hN).mono ?_
  rintro e w3 ⟨A3, c3, rfl, hk3, hO3, hb3⟩
  have hz3 := hb3.size
  simp at hz3
  have hacc3 := hacc0.below hb3
  have hB3 : Below w2.heap.size w2 w3 := hba.trans (hb3.mono (by simp))
  obtain ⟨cols, hcols⟩ : ∃ l, Hid (l = colorsOf s cs) := ⟨_, rfl⟩
  have hCB : ∀ a ∈ cols, 0 ≤ a ∧ a ≤ 5 := fun a ha => by rw [hcols.out] at ha; exact colors_bd ha
  rw [← hcols.out] at hO3 hcl
  obtain ⟨lo, hlo⟩ : ∃ lo, Hid (lo = w2.heap.size + 1) := ⟨_, rfl⟩
  obtain ⟨hi, hhi⟩ : ∃ hi, Hid (hi = w3.heap.size) := ⟨_, rfl⟩
  have hO : Own w3 lo hi A3 cols.length 1 cols intC := hO3.mono (by rw [hlo.out]; simp) (by rw [hhi.out]; exact Nat.le_refl _)
  rw [← hcols.out]
  clear hO3 hacc0 hb3 hba hR2 hsz2
  rcases hp : printsOk ks with _ | _
  · have HN := Lib.hid (stiff_no (s := s) (cs := cs) hp)
    go_wp2_with fail
    go_loopw [5, 7] (fun o i wr => o = .slice (some ⟨w2.heap.size, 0, none⟩) 0 0 ∧ i = .int .i64 0 ∧ wr = w3) (fun _ _ _ => 0)
    case atStart => exact ⟨rfl, rfl, rfl⟩
    case round =>
      obtain ⟨rfl, rfl, rfl⟩ := hrel
      have hK3 := hK2.below hB3
      have hz := hB3.size
      by_cases h0 : 0 < cols.length
      · go_wp2_with (go_at_call 26; refine (printsOkS_any _ _ _ ks _ hK3 hM4).mono ?_; rintro e w4 ⟨rfl, hb4⟩; rw [hp])
        go_ret
        rw [HN.out]
        exact (hacc3.below hb4).made intC_len (W := W) hBW2.size (hBW2.trans ((hB3.trans (hb4.mono hz)).mono hBW2.size)) rfl
      · go_wp2
        go_ret
        rw [HN.out]
        exact hacc3.made intC_len (W := W) hBW2.size (hBW2.trans (hB3.mono hBW2.size)) rfl
  · have HE0 := Lib.hid (stiff_eq (s := s) (cs := cs) hp)
    rw [← hcols.out] at HE0
    have HM6 := Lib.hid (show m = 6 by have := prints_len hp; rw [hK.len] at this; exact this)
    have HP := Lib.hid hp
    go_wp2_with fail
    go_loopw [5, 7] (fun o i wr => ∃ j : Nat, j ≤ cols.length ∧ i = .int .i64 (j : Int) ∧ Acc wr w2.heap.size 3 1 o ((cols.take j).filter (isStiff ks)) intC ∧ Sep o lo hi ∧ Own wr lo hi A3 cols.length 1 cols intC ∧ Below w2.heap.size w2 wr ∧ hi ≤ wr.heap.size) (fun _ i _ => cols.length - (intOf i).toNat)
    case atStart => exact ⟨0, Nat.zero_le _, rfl, hacc3, Sep.at_ (.inl (by have := hlo.out; omega)), hO, hB3, Nat.le_of_eq hhi.out⟩
    case round =>
      clear hacc3 hO hB3 hp
      obtain ⟨j, hj, rfl, hacc, hsep, hO, hB, hhi'⟩ := hrel
      have hz := hB.size
      have hKw := hK2.below hB
      by_cases hlt : j < cols.length
      · obtain ⟨b, off, x, rfl, hbW, hx, g0⟩ := hO.rd.int hlt (Below.refl _ _)
        have hxb := hCB _ (List.mem_of_getElem? hx)
        obtain ⟨p, rfl⟩ := Int.eq_ofNat_of_zero_le hxb.1
        have hp6 : p < m := by have := HM6.out; omega
        obtain ⟨b2, off2, y, rfl, hbW2, hy, k0⟩ := hK2.int hp6 hB
        have HKA := Lib.hid (show isStiff ks (p : Int) = (y == 2) by unfold isStiff kindAt; rw [Int.toNat_natCast, List.getD_eq_getElem?_getD, hy]; rfl)
        have HF := Lib.hid (filter_take_succ (p := isStiff ks) hx)
        have hfl := filter_take_len (isStiff ks) cols j
        clear hx hy
        have hpm : (p : Int) < (m : Int) := by omega
        have hp := HP.out
        rcases hy2 : (y == 2) with _ | _
        · have HE := Lib.hid (show (cols.take (j + 1)).filter (isStiff ks) = (cols.take j).filter (isStiff ks) by rw [HF.out, HKA.out, hy2]; simp)
          go_wp2_with (go_at_call 26; refine (printsOkS_any _ _ _ ks _ hKw hM4).mono ?_; rintro e w4 ⟨rfl, hb4⟩; rw [hp]; have g4 := keepcell g0 hb4; have k4 := keepcell k0 hb4)
          have hz4 := hb4.size
          go_roundw
          case rel => exact ⟨j + 1, by omega, by go_num, by rw [HE.out]; exact hacc.below hb4, hsep, hO.below hb4, hB.trans (hb4.mono hz), by omega⟩
          case measure => simp [intOf]; omega
        · have HE := Lib.hid (show (cols.take (j + 1)).filter (isStiff ks) = (cols.take j).filter (isStiff ks) ++ [(p : Int)] by rw [HF.out, HKA.out, hy2]; rfl)
          go_wp2_with (first | (go_at_call 26; refine (printsOkS_any _ _ _ ks _ hKw hM4).mono ?_; rintro e w4 ⟨rfl, hb4⟩; rw [hp]; have g4 := keepcell g0 hb4; have k4 := keepcell k0 hb4; have hacc4 := hacc.below hb4; have hz4 := hb4.size; have hz5 := Nat.le_trans hz hz4) | (at_builtin; refine wpList_acc1 rfl _ _ 25 rfl w2.heap.size 3 (.int .i64 0) 1 8 Try.underlying25 infoIntA rfl (by omega) _ _ intC (p : Int) rfl hacc4 _ _ rfl _ rfl (by simp) rfl (by simp [intC, Value.oneCell']) (by omega) (by omega) hz5 ?_; intro v' w5 hacc5 hgrow5 hat5))
          go_roundw
          case rel => exact ⟨j + 1, by omega, by go_num, by rw [HE.out]; exact hacc5, hsep.next hat5 (by omega), (hO.below hb4).app hgrow5 hsep, hacc4.grow_below (hB.trans (hb4.mono hz)) hgrow5 (Nat.le_refl _) hz5, by have := hgrow5.size; omega⟩
          case measure => simp [intOf]; omega
      · obtain rfl : j = cols.length := by omega
        rw [List.take_length, ← HE0.out] at hacc
        go_wp2
        go_ret
        exact hacc.made intC_len (W := W) hBW2.size (hBW2.trans (hB.mono hBW2.size)) rfl

end Go.Proofs.Ytkbpehklfjnjjaa
