/-
  Drawn needs.
-/
import Derived.Test.YtgobjhaodlmoaaaDrawA
import Derived.Test.YtgobjhaodlmoaaaGrpA
set_option linter.unusedVariables false
namespace Go.Proofs.Ytgobjhaodlmoaaa
open Go.RowKit

theorem only_setNew {lo hi r o : Nat} {W w : World} (h : Only lo hi W w) (hr : W.heap.size ≤ r) (u : Value) : Only lo hi W (w.setCell ⟨r, o, none⟩ u) :=
  ⟨h.os, h.tape, h.output, by simpa [World.setCell] using h.size, fun k hk hd => (Below.heap_setCell w ⟨r, o, none⟩ u k (by show k ≠ r; omega)).trans (h.block k hk hd)⟩
theorem Acc.only {α : Type} {w w' : World} {lo sz l u : Nat} {e : TypeId} {v : Value} {xs : List α} {cells : α → List Value} (h : Acc w lo e sz v xs cells) (ho : Only l u w w') (hd : u ≤ lo) : Acc w' lo e sz v xs cells := by
  obtain ⟨h1, h2⟩ := h
  refine ⟨h1, ?_⟩
  rcases h2 with h2 | ⟨g, cap, cur, hv, hg, hh, r⟩
  · exact .inl h2
  · exact .inr ⟨g, cap, cur, hv, hg, (ho.block g (heap_lt hh) (.inr (by omega))).trans hh, r⟩

def NeedOut (W0 W : World) (g : Nat) (A : Option Addr) (n : Nat) (xs : List UInt8) (e : Ending) (w' : World) : Prop :=
  ∃ x : Need, e = .returned (.agg #[.int .i64 x.W, .int .i64 x.H, .int .i64 x.Count]) ∧ smallNeed x ∧ Cur W0 w' g A n xs ∧ Only g (g + 1) W w'

theorem l15Need_any (W0 : World) (g : Nat) (A : Option Addr) (n : Nat) (xs : List UInt8) (W : World) (hC : Cur W0 W g A n xs) :
    Calls Try.prog 63 #[.pointer (some ⟨g, 0, none⟩)] W (NeedOut W0 W g A n xs) := by
  go_enter Try.func63, Try.ntmps63
  go_wp2_with fail
  have hgW := hC.lt
  obtain ⟨r, hr⟩ : ∃ r, Hid (r = W.heap.size) := ⟨_, rfl⟩
  have hba : Below W.heap.size W (W.alloc (.cells #[.int .i64 0, .int .i64 0, .int .i64 0] 25)) := (Below.refl _ _).alloc (Nat.le_refl _) _
  have hCa := hC.below hba
  have hoa : Only g (g + 1) W (W.alloc (.cells #[.int .i64 0, .int .i64 0, .int .i64 0] 25)) := Only.of_below hba
  have hH0 : (W.alloc (.cells #[.int .i64 0, .int .i64 0, .int .i64 0] 25)).heap[r]? = some (.cells #[.int .i64 0, .int .i64 0, .int .i64 0] 25 (0, 0)) := by rw [hr.out]; exact heap_alloc_new W _
  have hgr : g < r := by rw [hr.out]; exact hgW
  have hrW : W.heap.size ≤ r := by rw [hr.out]; exact Nat.le_refl _
  rw [← hr.out]
  refine (l01Below_any W0 g A n xs 12 _ hCa (by omega)).mono ?_
  rintro e w1 ⟨x, rfl, hx, hC1, ho1⟩
  have hH1 := (ho1.block r (heap_lt hH0) (.inr (by omega))).trans hH0
  have hx0 := hx.1
  have hx1 := hx.2.1 (by omega)
  go_wp2_with fail
  refine (l01Below_any W0 g A n xs 12 _ hC1 (by omega)).mono ?_
  rintro e w2 ⟨y, rfl, hy, hC2, ho2⟩
  have hH2 := (ho2.block r (heap_lt hH1) (.inr (by omega))).trans hH1
  have hy0 := hy.1
  have hy1 := hy.2.1 (by omega)
  go_wp2_with fail
  refine (l01Below_any W0 g A n xs 30 _ hC2 (by omega)).mono ?_
  rintro e w3 ⟨z, rfl, hz, hC3, ho3⟩
  have hH3 := (ho3.block r (heap_lt hH2) (.inr (by omega))).trans hH2
  have hz0 := hz.1
  have hz1 := hz.2.1 (by omega)
  have ho := ((hoa.trans ho1).trans ho2).trans ho3
  have e0 : w3.cell? ⟨r, 0, none⟩ = some (.int .i64 0) := by rw [cell_of_row _ _ _ _ _ _ hH3]; rfl
  have e1 : w3.cell? ⟨r, 1, none⟩ = some (.int .i64 0) := by rw [cell_of_row _ _ _ _ _ _ hH3]; rfl
  have e2 : w3.cell? ⟨r, 2, none⟩ = some (.int .i64 0) := by rw [cell_of_row _ _ _ _ _ _ hH3]; rfl
  have f0 : w3.frozen? ⟨r, 0, none⟩ = false := frozen_of_row w3 _ 0 _ _ hH3
  have f1 : w3.frozen? ⟨r, 1, none⟩ = false := frozen_of_row w3 _ 1 _ _ hH3
  have f2 : w3.frozen? ⟨r, 2, none⟩ = false := frozen_of_row w3 _ 2 _ _ hH3
  clear hx hy hz hH0 hH1 hH2 hH3
  go_wp2
  refine bodyPost_ret (v := .agg #[.int .i64 (4 + 4 * x), .int .i64 (4 + 4 * y), .int .i64 (1 + z)]) (by simp [results, Try.results63, go_sem, e0, e1, e2]) rfl ⟨⟨4 + 4 * x, 4 + 4 * y, 1 + z⟩, rfl, ?_, ?_, ?_⟩
  · unfold smallNeed
    simp only
    omega
  · have hB := hC3.base
    have hs1 := only_set (o := 2) (only_set (o := 1) (only_set (o := 0) (Only.refl r (r + 1) w3) (.int .i64 (4 + 4 * x))) (.int .i64 (4 + 4 * y))) (.int .i64 (1 + z))
    exact hC3.only hs1 (.inl hgr) (Nat.le_trans hC.base.size hrW)
  · exact only_setNew (only_setNew (only_setNew ho hrW _) hrW _) hrW _

def NeedsOut (W0 : World) (g : Nat) (A : Option Addr) (n : Nat) (xs : List UInt8) (e : Ending) (w' : World) : Prop :=
  ∃ (A' : Option Addr) (k c' : Nat) (l : List Need), e = .returned (.slice A' k c') ∧ k ≤ c' ∧ Rd w' A' k 3 l needC ∧ SmallNeeds l ∧ Cur W0 w' g A n xs

set_option maxRecDepth 100000 in
set_option maxHeartbeats 1000000 in
theorem l15List_any (W0 : World) (g : Nat) (A : Option Addr) (n : Nat) (xs : List UInt8) (W : World) (hC : Cur W0 W g A n xs) :
    Calls Try.prog 55 #[.pointer (some ⟨g, 0, none⟩)] W (NeedsOut W0 g A n xs) := by
  have hgW := hC.lt
  have hW0 := hC.base.size
  go_enter Try.func55, Try.ntmps55
  go_wp2_with fail
  have hacc0 := Acc.lit0 W W.heap.size 25 3 needC (Nat.le_refl _) rfl
  have hC0 := hC.below ((Below.refl _ _).alloc (Nat.le_refl _) (.cells #[] 25))
  refine (l01Below_any W0 g A n xs 6 _ hC0 (by omega)).mono ?_
  rintro e w1 ⟨x, rfl, hx, hC1, ho1⟩
  have hx0 := hx.1
  have hx1 := hx.2.1 (by omega)
  obtain ⟨m, rfl⟩ := Int.eq_ofNat_of_zero_le hx0
  have hm5 : m ≤ 5 := by omega
  have hacc1 := hacc0.only ho1 (by omega)
  have hz1 : W.heap.size ≤ w1.heap.size := by have := ho1.size; simp at this; omega
  clear hx hx0 hx1 ho1 hC0 hacc0
  go_wp2_with fail
  go_loopw [3, 5] (fun o i wr => ∃ (k : Nat) (l : List Need), k ≤ m ∧ i = .int .i64 (k : Int) ∧ Acc wr W.heap.size 25 3 o l needC ∧ l.length = k ∧ Hid (∀ x ∈ l, smallNeed x) ∧ Cur W0 wr g A n xs ∧ W.heap.size ≤ wr.heap.size) (fun _ i _ => m - (intOf i).toNat)
  case atStart => exact ⟨0, [], Nat.zero_le _, rfl, hacc1, rfl, (fun x hx => by simp at hx), hC1, hz1⟩
  case round =>
    clear hacc1 hC1 hz1
    obtain ⟨k, l, hk, rfl, hacc, hlen, hS, hC1, hz⟩ := hrel
    by_cases hlt : k < m
    · have hkm : (k : Int) < (m : Int) := by omega
      go_wp2_with fail
      refine (l15Need_any W0 g A n xs _ hC1).mono ?_
      rintro e w2 ⟨x, rfl, hxs, hC2, ho2⟩
      have hacc2 := hacc.only ho2 (by omega)
      have hz2 : W.heap.size ≤ w2.heap.size := Nat.le_trans hz ho2.size
      clear hacc hC1 ho2 hz
      obtain ⟨xW, xH, xC⟩ := x
      by_cases hk0 : k = 0
      · subst hk0
        have hba : Below w2.heap.size w2 (w2.alloc (.cells #[.int .i64 xW, .int .i64 xH, .int .i64 xC] 25)) := (Below.refl _ _).alloc (Nat.le_refl _) _
        have hacc3 := hacc2.below hba
        have hC3 := hC2.below hba
        have hz3 : W.heap.size ≤ (w2.alloc (.cells #[.int .i64 xW, .int .i64 xH, .int .i64 xC] 25)).heap.size := by simp; omega
        go_wp2_with (at_builtin; refine wpList_acc1 rfl _ _ 32 rfl W.heap.size 25 (.agg #[.int .i64 0, .int .i64 0, .int .i64 0]) 3 24 Try.underlying32 infoNeed rfl (by omega) _ l needC ⟨xW, xH, xC⟩ rfl hacc3 _ _ rfl _ rfl (by simp) rfl (by simp [needC, Value.oneCell']) (by omega) (by omega) hz3 ?_; intro v' w5 hacc5 hgrow5 hat5)
        go_roundw
        case rel => exact ⟨0 + 1, l ++ [⟨xW, xH, xC⟩], by omega, by go_num, hacc5, by rw [List.length_append, hlen]; rfl, (fun z hz => by
          rcases List.mem_append.1 hz with hz | hz
          · exact hS.out z hz
          · rw [List.mem_singleton.1 hz]; exact hxs), hC3.grow hgrow5 (fun hh => by have := (hacc3.row hh).1; omega) (fun q hq => Nat.le_trans hW0 (hacc3.row hq).1), Nat.le_trans hz3 hgrow5.size⟩
        case measure => simp [intOf]; omega
      · have hkp : (0 : Int) < (k : Int) := by omega
        have hba : Below w2.heap.size w2 (w2.alloc (.cells #[.int .i64 xW, .int .i64 xH, .int .i64 xC] 25)) := (Below.refl _ _).alloc (Nat.le_refl _) _
        have hacc3 := hacc2.below hba
        have hC3 := hC2.below hba
        have hz3 : W.heap.size ≤ (w2.alloc (.cells #[.int .i64 xW, .int .i64 xH, .int .i64 xC] 25)).heap.size := by simp; omega
        obtain ⟨j, hj⟩ : ∃ j, Hid (j = w2.heap.size) := ⟨_, rfl⟩
        have hjW : W.heap.size ≤ j := by rw [hj.out]; exact hz2
        have hH3 : (w2.alloc (.cells #[.int .i64 xW, .int .i64 xH, .int .i64 xC] 25)).heap[j]? = some (.cells #[.int .i64 xW, .int .i64 xH, .int .i64 xC] 25 (0, 0)) := by rw [hj.out]; exact heap_alloc_new w2 _
        have hgj : g < j := by omega
        have hsep : ∀ q, Value.ownBlock _ = some q → q < j := fun q hq => by rw [hj.out]; exact (hacc2.row hq).2
        go_wp2_with fail
        rw [← hj.out]
        refine (l01Once_any W0 g A n xs 3 _ hC3 (by omega)).mono ?_
        rintro e w4 ⟨up, rfl, hC4, ho4⟩
        have hacc4 := hacc3.only ho4 (by omega)
        have hz4 : W.heap.size ≤ w4.heap.size := Nat.le_trans hz3 ho4.size
        have hH4 := (ho4.block j (heap_lt hH3) (.inr (by omega))).trans hH3
        obtain ⟨f, hf⟩ : ∃ f, l[0]? = some f := ⟨_, List.getElem?_eq_getElem (by omega)⟩
        have hfs := hS.out f (List.mem_of_getElem? hf)
        obtain ⟨g2, c2, rfl, hgl2, hgw2, hcell, hfz⟩ := hacc4.cells_at needC_len hf
        rw [hlen] at hacc4
        have y0 := hcell 0 _ rfl
        have y1 := hcell 1 _ rfl
        simp only [Nat.zero_mul, Nat.zero_add, Nat.add_zero] at y0 y1
        have e0 : w4.cell? ⟨j, 0, none⟩ = some (.int .i64 xW) := by rw [cell_of_row _ _ _ _ _ _ hH4]; rfl
        have e1 : w4.cell? ⟨j, 1, none⟩ = some (.int .i64 xH) := by rw [cell_of_row _ _ _ _ _ _ hH4]; rfl
        have e2 : w4.cell? ⟨j, 2, none⟩ = some (.int .i64 xC) := by rw [cell_of_row _ _ _ _ _ _ hH4]; rfl
        have f0 : w4.frozen? ⟨j, 0, none⟩ = false := frozen_of_row w4 _ 0 _ _ hH4
        have f1 : w4.frozen? ⟨j, 1, none⟩ = false := frozen_of_row w4 _ 1 _ _ hH4
        have hg2j : g2 < j := hsep g2 rfl
        have hgj2 : ¬ g2 = j := by omega
        have hjg2 : ¬ j = g2 := by omega
        have hlp : (0 : Int) < (l.length : Int) := by omega
        have hll : l.length + 1 ≤ 4294967296 := by omega
        have hjl := heap_lt hH4
        clear hacc2 hacc3 hC2 hC3 hH3 hz2 hz3 ho4 hcell hfz hba
        obtain ⟨fW, fH, fC⟩ := f
        simp only at y0 y1
        cases up
        · go_wp2_with (at_builtin; refine wpList_acc1 rfl _ _ 32 rfl W.heap.size 25 (.agg #[.int .i64 0, .int .i64 0, .int .i64 0]) 3 24 Try.underlying32 infoNeed rfl (by omega) _ l needC ⟨xW, xH, xC⟩ rfl hacc4 _ _ rfl _ rfl (by simp) rfl (by simp [needC, Value.oneCell']) hll (by omega) hz4 ?_; intro v' w5 hacc5 hgrow5 hat5)
          go_roundw
          case rel => exact ⟨k + 1, l ++ [⟨xW, xH, xC⟩], by omega, by go_num, hacc5, by simp; omega, (fun z hz => by
            rcases List.mem_append.1 hz with hz | hz
            · exact hS.out z hz
            · rw [List.mem_singleton.1 hz]; exact hxs), hC4.grow hgrow5 (fun hh => by have := (hacc4.row hh).1; omega) (fun q hq => Nat.le_trans hW0 (hacc4.row hq).1), Nat.le_trans hz4 hgrow5.size⟩
          case measure => simp [intOf]; omega
        · have hs1 : Only j (j + 1) w4 ((w4.setCell ⟨j, 0, none⟩ (.int .i64 fW)).setCell ⟨j, 1, none⟩ (.int .i64 fH)) := only_set (only_set (Only.refl _ _ _) _) _
          have hacc6 : Acc ((w4.setCell ⟨j, 0, none⟩ (.int .i64 fW)).setCell ⟨j, 1, none⟩ (.int .i64 fH)) W.heap.size 25 3 (.slice (some ⟨g2, 0, none⟩) k c2) l needC := hacc4.kept (row := some j) ⟨hs1.os, hs1.tape, hs1.output, hs1.size, fun q hq hne => hs1.block q hq (match Nat.lt_trichotomy q j with | .inl h1 => .inl h1 | .inr (.inl h1) => absurd (congrArg some h1) hne | .inr (.inr h1) => .inr h1)⟩ (fun q hq hh => hgj2 (by have h1 : g2 = q := (by simpa [Value.ownBlock] using hq); injection hh with hh; rw [h1, hh]))
          have hC6 := hC4.only hs1 (.inl hgj) (by omega)
          have hz6 : W.heap.size ≤ ((w4.setCell ⟨j, 0, none⟩ (.int .i64 fW)).setCell ⟨j, 1, none⟩ (.int .i64 fH)).heap.size := Nat.le_trans hz4 hs1.size
          have hxs2 : smallNeed ⟨fW, fH, xC⟩ := by unfold smallNeed at *; simp only at *; omega
          go_wp2_with (at_builtin; refine wpList_acc1 rfl _ _ 32 rfl W.heap.size 25 (.agg #[.int .i64 0, .int .i64 0, .int .i64 0]) 3 24 Try.underlying32 infoNeed rfl (by omega) _ l needC ⟨fW, fH, xC⟩ rfl hacc6 _ _ rfl _ rfl (by simp) rfl (by simp [needC, Value.oneCell']) hll (by omega) hz6 ?_; intro v' w5 hacc5 hgrow5 hat5)
          go_roundw
          case rel => exact ⟨k + 1, l ++ [⟨fW, fH, xC⟩], by omega, by go_num, hacc5, by simp; omega, (fun z hz => by
            rcases List.mem_append.1 hz with hz | hz
            · exact hS.out z hz
            · rw [List.mem_singleton.1 hz]; exact hxs2), hC6.grow hgrow5 (fun hh => by have := (hacc6.row hh).1; omega) (fun q hq => Nat.le_trans hW0 (hacc6.row hq).1), Nat.le_trans hz6 hgrow5.size⟩
          case measure => simp [intOf]; omega
    · go_wp2
      go_ret
      obtain ⟨A', c', rfl, hc', hO⟩ := hacc.own needC_len
      exact ⟨A', l.length, c', l, rfl, hc', hO.rd, ⟨by omega, hS.out⟩, hC1⟩

end Go.Proofs.Ytgobjhaodlmoaaa
