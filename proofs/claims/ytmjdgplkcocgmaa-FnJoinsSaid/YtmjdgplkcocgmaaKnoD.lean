/-
  Contracts over cuts: all cuts of a layout.
-/
import Derived.Test.YtmjdgplkcocgmaaKnoC
import Derived.Test.YtmjdgplkcocgmaaUniB
set_option linter.unusedVariables false
namespace Go.Proofs.Ytmjdgplkcocgmaa
open Go.RowKit

def cutC (c : Cut) : List Value := [.bool c.Upright, .int .i64 c.At]
theorem cutC_len (c : Cut) : (cutC c).length = 2 := rfl
theorem infoCut : (Try.prog.info? 72).map (fun i => (i.zero, i.size, i.bytes)) = some (some (.agg #[.bool false, .int .i64 0]), 2, 16) := by kernel_rfl
theorem Rd.cut {w w' : World} {A : Option Addr} {n : Nat} {xs : List Cut} (h : Rd w A n 2 xs cutC) {k : Nat} (hk : k < n) (hb : Below w.heap.size w w') :
    ∃ b off x, A = some ⟨b, off, none⟩ ∧ b < w.heap.size ∧ xs[k]? = some x ∧ w'.cell? ⟨b, off + k * 2, none⟩ = some (.bool x.Upright) ∧ w'.cell? ⟨b, off + k * 2 + 1, none⟩ = some (.int .i64 x.At) := by
  obtain ⟨b, off, x, e, hlt, hx, hc⟩ := h.at_ hk
  have hw : ∀ j u, (cutC x)[j]? = some u → w'.cell? ⟨b, off + (k * 2 + j), none⟩ = some u := fun j u hu => (hb.cell (p := ⟨b, _, none⟩) hlt).trans (hc j u hu)
  exact ⟨b, off, x, e, hlt, hx, hw 0 _ rfl, hw 1 _ rfl⟩
def cutsUp (w h : Int) (ps : List Patch) (k : Nat) : List Cut := (cands.take k).filter (isCut w h ps)
theorem cands_at {k : Nat} (hk : k < 24) : cands[k]? = some ⟨decide (k < 12), ((k % 12 : Nat) : Int)⟩ := by
  unfold cands
  by_cases h : k < 12
  · rw [List.getElem?_append_left (by simp; omega), List.getElem?_map, List.getElem?_range h, decide_eq_true h, Nat.mod_eq_of_lt h]
    rfl
  · rw [List.getElem?_append_right (by simp; omega), List.getElem?_map, List.getElem?_range (by simp; omega), decide_eq_false h]
    simp only [List.length_map, List.length_range, Option.map_some]
    rw [show k - 12 = k % 12 from by omega]
theorem cutsUp_succ (w h : Int) (ps : List Patch) {k : Nat} (hk : k < 24) {c : Cut} (hc : (⟨decide (k < 12), ((k % 12 : Nat) : Int)⟩ : Cut) = c) : cutsUp w h ps (k + 1) = cutsUp w h ps k ++ (if isCut w h ps c then [c] else []) := by
  subst hc
  unfold cutsUp
  rw [List.take_add_one, cands_at hk, List.filter_append]
  simp only [Option.toList_some, List.filter_cons, List.filter_nil]
theorem cutsUp_yes {w h : Int} {ps : List Patch} {k : Nat} (hk : k < 24) {c : Cut} (hc : (⟨decide (k < 12), ((k % 12 : Nat) : Int)⟩ : Cut) = c) (hi : isCut w h ps c = true) : cutsUp w h ps k ++ [c] = cutsUp w h ps (k + 1) := by
  rw [cutsUp_succ w h ps hk hc, hi]; rfl
theorem cutsUp_no {w h : Int} {ps : List Patch} {k : Nat} (hk : k < 24) {c : Cut} (hc : (⟨decide (k < 12), ((k % 12 : Nat) : Int)⟩ : Cut) = c) (hi : isCut w h ps c = false) : cutsUp w h ps k = cutsUp w h ps (k + 1) := by
  rw [cutsUp_succ w h ps hk hc, hi]; simp
theorem cutsUp_zero {w h : Int} {ps : List Patch} {k : Nat} (hk : k < 24) (h0 : k % 12 = 0) : cutsUp w h ps k = cutsUp w h ps (k + 1) := by
  refine cutsUp_no hk rfl ?_
  rw [h0]
  unfold isCut
  rw [show within ((0 : Nat) : Int) 1 (mostOfCut w h ⟨decide (k < 12), ((0 : Nat) : Int)⟩ - 1) = false from by
    rcases q : within ((0 : Nat) : Int) 1 (mostOfCut w h ⟨decide (k < 12), ((0 : Nat) : Int)⟩ - 1) with _ | _
    · rfl
    · have := (within_iff.1 q).1
      omega]
  simp
theorem cutsUp_end (w h : Int) (ps : List Patch) : cutsUp w h ps 24 = cutsOf w h ps := by
  unfold cutsUp cutsOf
  rw [List.take_of_length_le (by simp [cands])]
theorem cutsUp_len (w h : Int) (ps : List Patch) (k : Nat) (hk : k ≤ 24) : (cutsUp w h ps k).length ≤ 24 := by
  unfold cutsUp
  have h1 := List.length_filter_le (isCut w h ps) (cands.take k)
  have h2 := List.length_take_le k cands
  omega
theorem belowr {w w1 w5 : World} {o : Obj} (h : w.alloc o = w1) (hb : Below w1.heap.size w1 w5) : Below w.heap.size w w5 := by
  subst h
  exact ((Below.refl _ _).alloc (Nat.le_refl _) o).trans (hb.mono (by simp))

set_option maxRecDepth 100000 in
set_option maxHeartbeats 2000000 in
theorem cutsOfI_any (w h : Int) (A : Option Addr) (n c : Nat) (ps : List Patch) (W : World) (hR : Rd W A n 5 ps patchC) (hN : n ≤ 1048576) :
    Calls Try.prog 53 #[.agg #[.int .i64 w, .int .i64 h, .slice A n c]] W (Made W (cutsOf w h ps).length 2 (cutsOf w h ps) cutC) := by
  obtain ⟨jb, hjb⟩ : ∃ j, Hid (W.heap.size = j) := ⟨_, rfl⟩
  obtain ⟨wa, hwa⟩ : ∃ v, Hid (W.alloc (.cells #[.int .i64 w, .int .i64 h, .slice A n c] 30) = v) := ⟨_, rfl⟩
  have e0 : wa.cell? ⟨jb, 0, none⟩ = some (.int .i64 w) := by rw [← hwa.out, ← hjb.out, cell_of_row _ _ _ _ _ _ (heap_alloc_new W _)]; rfl
  have e1 : wa.cell? ⟨jb, 1, none⟩ = some (.int .i64 h) := by rw [← hwa.out, ← hjb.out, cell_of_row _ _ _ _ _ _ (heap_alloc_new W _)]; rfl
  have e2 : wa.cell? ⟨jb, 2, none⟩ = some (.slice A n c) := by rw [← hwa.out, ← hjb.out, cell_of_row _ _ _ _ _ _ (heap_alloc_new W _)]; rfl
  have ba : Below W.heap.size W wa := by rw [← hwa.out]; exact (Below.refl _ _).alloc (Nat.le_refl _) _
  have sa : wa.heap.size = W.heap.size + 1 := by rw [← hwa.out]; simp
  obtain ⟨jl, hjl⟩ : ∃ j, Hid (wa.heap.size = j) := ⟨_, rfl⟩
  have HJL : Hid (W.heap.size + 1 = jl) := by show _ = _; rw [← hjl.out, sa]
  obtain ⟨wl, hwl⟩ : ∃ v, Hid (wa.alloc (.cells #[] 72) = v) := ⟨_, rfl⟩
  have hacc : Acc wl jl 72 2 (.slice (some ⟨jl, 0, none⟩) 0 0) ([] : List Cut) cutC := by rw [← hwl.out]; exact Acc.lit0 wa jl 72 2 cutC (Nat.le_of_eq hjl.out.symm) hjl.out.symm
  have bl : Below wa.heap.size wa wl := by rw [← hwl.out]; exact (Below.refl _ _).alloc (Nat.le_refl _) _
  have sl : wl.heap.size = wa.heap.size + 1 := by rw [← hwl.out]; simp
  replace e0 := keepcell e0 bl
  replace e1 := keepcell e1 bl
  replace e2 := keepcell e2 bl
  have hBl := ba.trans (bl.mono ba.size)
  obtain ⟨jt, hjt⟩ : ∃ j, Hid (wl.heap.size = j) := ⟨_, rfl⟩
  obtain ⟨wt, hwt⟩ : ∃ v, Hid (wl.alloc (.cells #[.bool true, .bool false] 4) = v) := ⟨_, rfl⟩
  have t0 : wt.cell? ⟨jt, 0, none⟩ = some (.bool true) := by rw [← hwt.out, ← hjt.out, cell_of_row _ _ _ _ _ _ (heap_alloc_new wl _)]; rfl
  have t1 : wt.cell? ⟨jt, 1, none⟩ = some (.bool false) := by rw [← hwt.out, ← hjt.out, cell_of_row _ _ _ _ _ _ (heap_alloc_new wl _)]; rfl
  have bt : Below wl.heap.size wl wt := by rw [← hwt.out]; exact (Below.refl _ _).alloc (Nat.le_refl _) _
  replace e0 := keepcell e0 bt
  replace e1 := keepcell e1 bt
  replace e2 := keepcell e2 bt
  have HT : Hid (∀ u : Nat, u < 2 → wt.cell? ⟨jt, u, none⟩ = some (.bool (decide (u = 0)))) := fun u hu => by
    rcases (by omega : u = 0 ∨ u = 1) with rfl | rfl
    · exact t0
    · exact t1
  replace hacc := hacc.below bt
  have hBt := hBl.trans (bt.mono hBl.size)
  have hjlt : jl < jt := by rw [← hjl.out, ← hjt.out, sl]; omega
  have hjtz : jt < wt.heap.size := by rw [← hjt.out, ← hwt.out]; simp
  have hown : (Value.slice (some ⟨jl, 0, none⟩) 0 0).ownBlock ≠ some jt := fun e => by have := Option.some.inj (show some jl = some jt from e); omega
  have hjbl : jb < jl := by rw [← hjb.out, ← HJL.out]; omega
  have hWl : W.heap.size ≤ jl := by rw [← HJL.out]; omega
  have hjlz : jl < wl.heap.size := by rw [← hjl.out, sl]; omega
  clear sa ba sl bl bt t0 t1
  go_enter Try.func53, Try.ntmps53
  go_wp2_with (first | rw [hwa.out] | rw [hwl.out] | rw [hwt.out] | rw [hjl.out] | rw [HJL.out] | rw [hjt.out] | rw [hjb.out])
  go_loopw [3, 11] (fun o i wr => ∃ u : Nat, u ≤ 2 ∧ i = .int .i64 (u : Int) ∧ ∃ k : Nat, k ≤ 24 ∧ Acc wr jl 72 2 o (cutsUp w h ps k) cutC ∧ o.ownBlock ≠ some jt ∧ wr.cell? ⟨jb, 0, none⟩ = some (.int .i64 w) ∧ wr.cell? ⟨jb, 1, none⟩ = some (.int .i64 h) ∧ wr.cell? ⟨jb, 2, none⟩ = some (.slice A n c) ∧ Hid (∀ u : Nat, u < 2 → wr.cell? ⟨jt, u, none⟩ = some (.bool (decide (u = 0)))) ∧ Below W.heap.size W wr ∧ jt < wr.heap.size ∧ Hid (k = 12 * u)) (fun _ i _ => 2 - (intOf i).toNat)
  case atStart => exact ⟨0, by omega, rfl, 0, by omega, by simpa [cutsUp] using hacc, hown, e0, e1, e2, HT, hBt, hjtz, rfl⟩
  case round =>
    clear hacc hown e0 e1 e2 HT hBt hBl hjtz hjlz
    obtain ⟨u, hu, rfl, k, hk, hacc, hown, e0, e1, e2, HT, hB, hjtz, hku⟩ := hrel
    by_cases hlt : u < 2
    · obtain ⟨up, hup⟩ : ∃ b, Hid (b = decide (u = 0)) := ⟨_, rfl⟩
      have ht := HT.out u hlt
      rw [← hup.out] at ht
      have hu2 : (u : Int) < 2 := by omega
      have hk1 : k < 24 := by have := hku.out; omega
      have h0 := cutsUp_zero (w := w) (h := h) (ps := ps) hk1 (by have := hku.out; omega)
      rw [h0] at hacc
      have HKU := hku
      clear h0 hku
      go_wp2
      go_loopw [3, 6] (fun o i wr => ∃ q : Nat, 1 ≤ q ∧ q ≤ 12 ∧ i = .int .i64 (q : Int) ∧ ∃ k : Nat, k ≤ 24 ∧ Acc wr jl 72 2 o (cutsUp w h ps k) cutC ∧ o.ownBlock ≠ some jt ∧ wr.cell? ⟨jb, 0, none⟩ = some (.int .i64 w) ∧ wr.cell? ⟨jb, 1, none⟩ = some (.int .i64 h) ∧ wr.cell? ⟨jb, 2, none⟩ = some (.slice A n c) ∧ Hid (∀ u : Nat, u < 2 → wr.cell? ⟨jt, u, none⟩ = some (.bool (decide (u = 0)))) ∧ Below W.heap.size W wr ∧ jt < wr.heap.size ∧ Hid (k = 12 * u + q)) (fun _ i _ => 12 - (intOf i).toNat)
      case atStart => exact ⟨1, by omega, by omega, rfl, k + 1, by omega, hacc, hown, e0, e1, e2, HT, hB, hjtz, by have := HKU.out; exact (by omega : k + 1 = 12 * u + 1)⟩
      case round =>
        clear hacc hown e0 e1 e2 ht HT hB hjtz hk1 hk HKU
        obtain ⟨q, hq1, hq, rfl, p, hp, hacc, hown, e0, e1, e2, HT, hB, hjtz, hpq⟩ := hrel
        have hz := hB.size
        by_cases hql : q < 12
        · have hcd : (⟨decide (p < 12), ((p % 12 : Nat) : Int)⟩ : Cut) = ⟨up, (q : Int)⟩ := by
            have e9 := hpq.out
            rw [hup.out, show p % 12 = q from by omega]
            congr 1
            rw [decide_eq_decide]
            omega
          have HCD := Lib.hid hcd
          have hp24 : p < 24 := by have := hpq.out; omega
          clear hcd
          have hq12 : (q : Int) < 12 := by omega
          have hlen := cutsUp_len w h ps p hp
          obtain ⟨jq, hjq⟩ : ∃ j, Hid (wr.heap.size = j) := ⟨_, rfl⟩
          obtain ⟨wq, hwq⟩ : ∃ v, Hid (wr.alloc (.cells #[.bool up, .int .i64 (q : Int)] 72) = v) := ⟨_, rfl⟩
          have c0 : wq.cell? ⟨jq, 0, none⟩ = some (.bool up) := by rw [← hwq.out, ← hjq.out, cell_of_row _ _ _ _ _ _ (heap_alloc_new _ _)]; rfl
          have c1 : wq.cell? ⟨jq, 1, none⟩ = some (.int .i64 (q : Int)) := by rw [← hwq.out, ← hjq.out, cell_of_row _ _ _ _ _ _ (heap_alloc_new _ _)]; rfl
          have bq : Below wr.heap.size wr wq := by rw [← hwq.out]; exact (Below.refl _ _).alloc (Nat.le_refl _) _
          have g0 := keepcell e0 bq
          have g1 := keepcell e1 bq
          have g2 := keepcell e2 bq
          have hRq := (hR.below hB).below bq
          go_wp2_with (rw [hwq.out]; (try rw [hjq.out]))
          refine (isCutI_any _ _ _ _ _ ps _ _ _ hRq hN).mono ?_
          rintro e w5 ⟨rfl, hb5⟩
          have b5 := bq.trans (hb5.mono bq.size)
          replace e0 := keepcell e0 b5
          replace e1 := keepcell e1 b5
          replace e2 := keepcell e2 b5
          replace c0 := keepcell c0 hb5
          replace c1 := keepcell c1 hb5
          have hacc5 := hacc.below b5
          have hB5 := hB.trans (b5.mono hz)
          have hz5 := hB5.size
          have hjt5 := Nat.lt_of_lt_of_le hjtz b5.size
          have hjl5 : jl ≤ w5.heap.size := by omega
          have HT5 : Hid (∀ u : Nat, u < 2 → w5.cell? ⟨jt, u, none⟩ = some (.bool (decide (u = 0)))) := fun u hu => keepcell (HT.out u hu) b5
          clear g0 g1 g2 hRq hb5 b5 bq HT hacc hB hz hjtz
          rcases hc : isCut w h ps ⟨up, (q : Int)⟩ with _ | _
          · go_wp2
            go_roundw
            case rel => exact ⟨q + 1, by omega, by omega, by go_num, p + 1, by omega, by rw [← cutsUp_no hp24 HCD.out hc]; exact hacc5, hown, e0, e1, e2, HT5, hB5, hjt5, by have := hpq.out; exact (by omega : p + 1 = 12 * u + (q + 1))⟩
            case measure => simp [intOf]; omega
          · go_wp2_with (at_builtin; refine wpList_acc1 rfl _ _ 66 rfl jl 72 (.agg #[.bool false, .int .i64 0]) 2 16 Try.underlying66 infoCut rfl (by omega) _ _ cutC ⟨up, (q : Int)⟩ rfl hacc5 _ _ rfl _ rfl (by simp) rfl (by simp [cutC, Value.oneCell']) (by omega) (by omega) hjl5 ?_; intro v7 w7 hacc7 hgrow7 hat7)
            go_roundw
            case rel =>
              rw [cutsUp_yes hp24 HCD.out hc] at hacc7
              have hfar : ∀ (o' : Nat) (u' : Value), w5.cell? ⟨jt, o', none⟩ = some u' → w7.cell? ⟨jt, o', none⟩ = some u' := fun o' u' hh => (hgrow7.cell_far ⟨jt, o', none⟩ hjt5 (fun e => hown e.symm)).trans hh
              exact ⟨q + 1, by omega, by omega, by go_num, p + 1, by omega, hacc7, own_ne hat7 hown (by omega), near_of hacc5 hgrow7 e0 hjbl, near_of hacc5 hgrow7 e1 hjbl, near_of hacc5 hgrow7 e2 hjbl, fun u hu => hfar _ _ (HT5.out u hu), hacc5.grow_below hB5 hgrow7 hWl hz5, Nat.lt_of_lt_of_le hjt5 hgrow7.size, by have := hpq.out; exact (by omega : p + 1 = 12 * u + (q + 1))⟩
            case measure => simp [intOf]; omega
        · obtain rfl : q = 12 := by omega
          go_wp2
          go_roundw
          case rel => exact ⟨u + 1, by omega, by go_num, p, hp, hacc, hown, e0, e1, e2, HT, hB, hjtz, by have := hpq.out; exact (by omega : p = 12 * (u + 1))⟩
          case measure => simp [intOf]; omega
    · obtain rfl : k = 24 := by have := hku.out; omega
      go_wp2
      go_ret
      rw [cutsUp_end] at hacc
      exact hacc.made cutC_len hWl hB rfl

end Go.Proofs.Ytmjdgplkcocgmaa
