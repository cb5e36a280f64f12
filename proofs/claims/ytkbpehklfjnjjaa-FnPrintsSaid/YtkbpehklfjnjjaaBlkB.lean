/-
  Contracts over blocks: the colors of a block.
-/
import Derived.Test.YtkbpehklfjnjjaaBlkA
import Derived.Test.YtkbpehklfjnjjaaAccInt
import Derived.Test.YtkbpehklfjnjjaaFlatInt
set_option linter.unusedVariables false
namespace Go.Proofs.Ytkbpehklfjnjjaa
open Go.RowKit

def cellArea (c : Cell) (a : Int) : Int := if cellOk c then (if c.A = a then 2 else 0) + (if c.B = a then 2 else 0) else 0
def areaC (cs : List Cell) (a : Int) : Int := (cs.map fun c => cellArea c a).sum
def usesC (a : Int) (c : Cell) : Bool := c.A == a || c.B == a
def isUsed (cs : List Cell) (a : Int) : Bool := cs.any (usesC a)
def colorsUp (cs : List Cell) (k : Nat) : List Int := ((List.range k).filter fun i : Nat => isUsed cs (i : Int)).map fun i : Nat => (i : Int)
def colorsOf (s : Int) (cs : List Cell) : List Int := if blockOk s cs then colorsUp cs 6 else []
theorem colorsUp_succ (cs : List Cell) (k : Nat) : colorsUp cs (k + 1) = colorsUp cs k ++ (if isUsed cs (k : Int) then [(k : Int)] else []) := by
  unfold colorsUp
  rw [List.range_succ, List.filter_append, List.map_append]
  congr 1
  by_cases h : isUsed cs (k : Int) = true
  · simp [h]
  · simp [h]
theorem colorsUp_len (cs : List Cell) (k : Nat) : (colorsUp cs k).length ≤ k := by
  unfold colorsUp
  rw [List.length_map]
  have := List.length_filter_le (fun i : Nat => isUsed cs (i : Int)) (List.range k)
  simpa using this
theorem mem_colors {cs : List Cell} {k : Nat} {a : Int} (h : a ∈ colorsUp cs k) : 0 ≤ a ∧ a < k := by
  unfold colorsUp at h
  obtain ⟨i, hi, rfl⟩ := List.mem_map.1 h
  have := List.mem_range.1 (List.mem_filter.1 hi).1
  omega
theorem colors_len (s : Int) (cs : List Cell) : (colorsOf s cs).length ≤ 6 := by
  unfold colorsOf
  split
  · exact colorsUp_len _ _
  · simp
theorem colors_bd {s : Int} {cs : List Cell} {a : Int} (h : a ∈ colorsOf s cs) : 0 ≤ a ∧ a ≤ 5 := by
  unfold colorsOf at h
  split at h
  · have := mem_colors h
    omega
  · simp at h
theorem area_take_succ {cs : List Cell} {k : Nat} {c : Cell} (hc : cs[k]? = some c) (a : Int) : areaC (cs.take (k + 1)) a = areaC (cs.take k) a + cellArea c a := by
  unfold areaC
  rw [List.take_add_one, hc, List.map_append, List.sum_append]
  simp
theorem cellArea_bd (c : Cell) (a : Int) : 0 ≤ cellArea c a ∧ cellArea c a ≤ 4 := by
  unfold cellArea
  split
  · split <;> split <;> omega
  · omega
theorem area_bd (cs : List Cell) (a : Int) : ∀ k, 0 ≤ areaC (cs.take k) a ∧ areaC (cs.take k) a ≤ 4 * (k : Int) := by
  intro k
  induction k with
  | zero => exact ⟨Int.le_refl _, Int.le_refl _⟩
  | succ k ih =>
    cases hx : cs[k]? with
    | none =>
      rw [show cs.take (k + 1) = cs.take k by rw [List.take_of_length_le (by have := List.getElem?_eq_none_iff.1 hx; omega), List.take_of_length_le (List.getElem?_eq_none_iff.1 hx)]]
      omega
    | some c =>
      have := cellArea_bd c a
      rw [area_take_succ hx]
      omega
theorem used_area {cs : List Cell} (h : cs.all cellOk = true) (a : Int) : decide (0 < areaC cs a) = isUsed cs a := by
  unfold areaC isUsed
  induction cs with
  | nil => rfl
  | cons c cs ih =>
    rw [List.all_cons, Bool.and_eq_true] at h
    have ih := ih h.2
    have h0 : 0 ≤ (cs.map fun c => cellArea c a).sum := by
      have := (area_bd cs a cs.length).1
      rwa [List.take_length] at this
    have hb := cellArea_bd c a
    have hc : (0 < cellArea c a) ↔ usesC a c = true := by
      unfold cellArea usesC
      rw [if_pos h.1]
      simp only [Bool.or_eq_true, beq_iff_eq]
      split <;> split <;> simp_all
    rw [List.map_cons, List.sum_cons, List.any_cons, ← ih, Bool.eq_iff_iff, Bool.or_eq_true, decide_eq_true_iff, decide_eq_true_iff, ← hc]
    omega
theorem any_take_succ {α : Type} {p : α → Bool} {l : List α} {k : Nat} {x : α} (hx : l[k]? = some x) : (l.take (k + 1)).any p = ((l.take k).any p || p x) := by
  rw [List.take_add_one, hx, List.any_append]
  simp

theorem cellArea_any (s a b x : Int) (W : World) : Calls Try.prog 71 #[.agg #[.int .i64 s, .int .i64 a, .int .i64 b], .int .i64 x] W fun e w' => e = .returned (.int .i64 (cellArea ⟨s, a, b⟩ x)) ∧ Below W.heap.size W w' := by
  have HC : ∀ (v : Bool), cellOk ⟨s, a, b⟩ = v → ∀ W : World, Calls Try.prog 61 #[.agg #[.int .i64 s, .int .i64 a, .int .i64 b]] W (fun e w' => e = .returned (.bool v) ∧ Below W.heap.size W w') := fun v hv W => hv ▸ cellOkI_any s a b W
  rcases hc : cellOk ⟨s, a, b⟩ with _ | _
  · have HN := Lib.hid (show (0 : Int) = cellArea ⟨s, a, b⟩ x by unfold cellArea; rw [hc]; rfl)
    go_enter Try.func71, Try.ntmps71
    go_wp2_with fail
    refine (HC _ hc _).mono ?_
    rintro e w1 ⟨rfl, hb1⟩
    obtain ⟨hc1, hf1⟩ := bcell hb1
    have hz1 := hb1.size
    simp at hz1
    have hy1 : W.heap.size < w1.heap.size := by omega
    go_wp2_with fail
    refine (HC _ hc _).mono ?_
    rintro e w2 ⟨rfl, hb2⟩
    go_wp2
    go_ret
    exact ⟨ret_i HN.out, by (repeat (first | exact Below.refl _ _ | assumption | (refine Below.drew ?_) | (refine below_drewN ?_ _) | (refine Below.alloc ?_ (by first | exact Nat.le_refl _ | (simp; done) | (simp; omega) | omega) _) | (refine Below.setCell ?_ (by first | exact Nat.le_refl _ | (simp; done) | (simp; omega) | omega) _) | (refine Below.trans ?_ (Below.mono (by assumption) (by first | exact Nat.le_refl _ | (simp; done) | (simp; omega) | omega)))))⟩
  · rcases ha : (a == x) with _ | _
    all_goals rcases hb : (b == x) with _ | _
    all_goals
      have HN := Lib.hid (show (if (a == x) = true then (2 : Int) else 0) + (if (b == x) = true then 2 else 0) = cellArea ⟨s, a, b⟩ x by unfold cellArea; rw [hc]; simp)
      rw [ha, hb] at HN
      go_enter Try.func71, Try.ntmps71
      go_wp2_with fail
      refine (HC _ hc _).mono ?_
      rintro e w1 ⟨rfl, hb1⟩
      obtain ⟨hc1, hf1⟩ := bcell hb1
      have hz1 := hb1.size
      simp at hz1
      have hy1 : W.heap.size < w1.heap.size := by omega
      go_wp2_with fail
      refine (HC _ hc _).mono ?_
      rintro e w2 ⟨rfl, hb2⟩
      obtain ⟨hc2, hf2⟩ := bcell hb2
      have hz2 := hb2.size
      have hy2 : W.heap.size < w2.heap.size := by omega
      go_wp2
      go_ret
      exact ⟨ret_i (by simpa [Hid] using HN.out), by (repeat (first | exact Below.refl _ _ | assumption | (refine Below.drew ?_) | (refine below_drewN ?_ _) | (refine Below.alloc ?_ (by first | exact Nat.le_refl _ | (simp; done) | (simp; omega) | omega) _) | (refine Below.setCell ?_ (by first | exact Nat.le_refl _ | (simp; done) | (simp; omega) | omega) _) | (refine Below.trans ?_ (Below.mono (by assumption) (by first | exact Nat.le_refl _ | (simp; done) | (simp; omega) | omega)))))⟩

theorem areaOf_any (s x : Int) (A : Option Addr) (n c : Nat) (cs : List Cell) (W : World) (hR : Rd W A n 3 cs cellC) (hok : blockOk s cs = true) (hn : n ≤ 16) :
    Calls Try.prog 62 #[.agg #[.int .i64 s, .slice A n c], .int .i64 x] W fun e w' => e = .returned (.int .i64 (areaC cs x)) ∧ Below W.heap.size W w' := by
  have HLEN := Lib.hid hR.len
  have HOK := Lib.hid hok
  obtain ⟨jb, hjb⟩ : ∃ j, Hid (j = W.heap.size) := ⟨_, rfl⟩
  have e0 : (W.alloc (.cells #[.int .i64 s, .slice A n c] 30)).cell? ⟨jb, 1, none⟩ = some (.slice A n c) := by rw [hjb.out, cell_of_row _ _ _ _ _ _ (heap_alloc_new W _)]; rfl
  have hR1 : Rd (W.alloc (.cells #[.int .i64 s, .slice A n c] 30)) A n 3 cs cellC := hR.below ((Below.refl _ _).alloc (Nat.le_refl _) _)
  go_enter Try.func62, Try.ntmps62
  go_wp2_with fail
  rw [← hjb.out]
  refine (blockOkI_any _ _ _ _ cs _ hR1 (by omega)).mono ?_
  rintro e w1 ⟨rfl, hb1⟩
  rw [hok]
  have e1 := keepcell e0 hb1
  have hB1 : Below W.heap.size W w1 := by (repeat (first | exact Below.refl _ _ | assumption | (refine Below.drew ?_) | (refine below_drewN ?_ _) | (refine Below.alloc ?_ (by first | exact Nat.le_refl _ | (simp; done) | (simp; omega) | omega) _) | (refine Below.setCell ?_ (by first | exact Nat.le_refl _ | (simp; done) | (simp; omega) | omega) _) | (refine Below.trans ?_ (Below.mono (by assumption) (by first | exact Nat.le_refl _ | (simp; done) | (simp; omega) | omega)))))
  have hz1 := hB1.size
  go_wp2
  go_loopw [5, 14] (fun o i wr => ∃ k : Nat, k ≤ n ∧ i = .int .i64 (k : Int) ∧ o = .int .i64 (areaC (cs.take k) x) ∧ Below W.heap.size W wr) (fun _ i _ => n - (intOf i).toNat)
  case atStart => exact ⟨0, Nat.zero_le _, rfl, rfl, hB1⟩
  case round =>
    clear e0 e1 hb1 hB1 hz1 hok
    obtain ⟨k, hk, rfl, rfl, hB⟩ := hrel
    have hz := hB.size
    by_cases hlt : k < n
    · obtain ⟨b, off, y, rfl, hbW, hy, g0, g1, g2⟩ := hR.cell hlt hB
      have HS := Lib.hid (area_take_succ hy x)
      have hbd := area_bd cs x k
      clear hy
      obtain ⟨y0, y1, y2⟩ := y
      simp only at g0 g1 g2
      have hcb := cellArea_bd ⟨y0, y1, y2⟩ x
      generalize areaC (cs.take k) x = ar at HS hbd
      obtain ⟨v, hv⟩ : ∃ v, Hid (v = cellArea ⟨y0, y1, y2⟩ x) := ⟨_, rfl⟩
      rw [← hv.out] at HS hcb
      go_wp2_with (go_at_call 71; refine (cellArea_any _ _ _ _ _).mono ?_; rintro e w3 ⟨rfl, hb3⟩; rw [← hv.out])
      go_roundw
      case rel => exact ⟨k + 1, by omega, by go_num, by rw [HS.out], by (repeat (first | exact Below.refl _ _ | assumption | (refine Below.drew ?_) | (refine below_drewN ?_ _) | (refine Below.alloc ?_ (by first | exact Nat.le_refl _ | (simp; done) | (simp; omega) | omega) _) | (refine Below.setCell ?_ (by first | exact Nat.le_refl _ | (simp; done) | (simp; omega) | omega) _) | (refine Below.trans ?_ (Below.mono (by assumption) (by first | exact Nat.le_refl _ | (simp; done) | (simp; omega) | omega)))))⟩
      case measure => simp [intOf]; omega
    · obtain rfl : k = n := by omega
      have HN := Lib.hid (show areaC (cs.take k) x = areaC cs x by rw [List.take_of_length_le (Nat.le_of_eq HLEN.out)])
      go_wp2
      go_ret
      exact ⟨ret_i HN.out, hB⟩

set_option maxRecDepth 100000 in
theorem colorsI_any (s : Int) (A : Option Addr) (n c : Nat) (cs : List Cell) (W : World) (hR : Rd W A n 3 cs cellC) (hN : n ≤ 1048576) :
    Calls Try.prog 49 #[.agg #[.int .i64 s, .slice A n c]] W (Made W (colorsOf s cs).length 1 (colorsOf s cs) intC) := by
  have HLEN := Lib.hid hR.len
  obtain ⟨jb, hjb⟩ : ∃ j, Hid (j = W.heap.size) := ⟨_, rfl⟩
  have e0 : (W.alloc (.cells #[.int .i64 s, .slice A n c] 30)).cell? ⟨jb, 0, none⟩ = some (.int .i64 s) := by rw [hjb.out, cell_of_row _ _ _ _ _ _ (heap_alloc_new W _)]; rfl
  have e1 : (W.alloc (.cells #[.int .i64 s, .slice A n c] 30)).cell? ⟨jb, 1, none⟩ = some (.slice A n c) := by rw [hjb.out, cell_of_row _ _ _ _ _ _ (heap_alloc_new W _)]; rfl
  have hR1 : Rd (W.alloc (.cells #[.int .i64 s, .slice A n c] 30)) A n 3 cs cellC := hR.below ((Below.refl _ _).alloc (Nat.le_refl _) _)
  have hjz : jb < (W.alloc (.cells #[.int .i64 s, .slice A n c] 30)).heap.size := by rw [hjb.out]; simp
  rcases hok : blockOk s cs with _ | _
  · rw [show colorsOf s cs = [] by unfold colorsOf; rw [hok]; rfl]
    go_enter Try.func49, Try.ntmps49
    go_wp2_with fail
    refine (blockOkI_any _ _ _ _ cs _ hR1 hN).mono ?_
    rintro e w1 ⟨rfl, hb1⟩
    rw [hok]
    go_wp2
    go_ret
    exact ⟨none, 0, rfl, Nat.le_refl _, Own.nil _ _ _ _ _ _, by (repeat (first | exact Below.refl _ _ | assumption | (refine Below.drew ?_) | (refine below_drewN ?_ _) | (refine Below.alloc ?_ (by first | exact Nat.le_refl _ | (simp; done) | (simp; omega) | omega) _) | (refine Below.setCell ?_ (by first | exact Nat.le_refl _ | (simp; done) | (simp; omega) | omega) _) | (refine Below.trans ?_ (Below.mono (by assumption) (by first | exact Nat.le_refl _ | (simp; done) | (simp; omega) | omega)))))⟩
  · rw [show colorsOf s cs = colorsUp cs 6 by unfold colorsOf; rw [hok]; rfl]
    obtain ⟨hs, hl, hall⟩ := block_parts hok
    have hsq := sq_bd hs.1 hs.2
    rw [HLEN.out] at hl
    have hn16 : n ≤ 16 := by omega
    have HUA := Lib.hid fun a => used_area hall a
    have HOK := Lib.hid hok
    clear hall hl hsq hs
    go_enter Try.func49, Try.ntmps49
    go_wp2_with fail
    rw [← hjb.out]
    refine (blockOkI_any _ _ _ _ cs _ hR1 hN).mono ?_
    rintro e w1 ⟨rfl, hb1⟩
    rw [hok]
    have e0r := keepcell e0 hb1
    have e1r := keepcell e1 hb1
    have hR2 := hR1.below hb1
    have hz1 := hb1.size
    have hB1 : Below W.heap.size W w1 := by (repeat (first | exact Below.refl _ _ | assumption | (refine Below.drew ?_) | (refine below_drewN ?_ _) | (refine Below.alloc ?_ (by first | exact Nat.le_refl _ | (simp; done) | (simp; omega) | omega) _) | (refine Below.setCell ?_ (by first | exact Nat.le_refl _ | (simp; done) | (simp; omega) | omega) _) | (refine Below.trans ?_ (Below.mono (by assumption) (by first | exact Nat.le_refl _ | (simp; done) | (simp; omega) | omega)))))
    have hzW : W.heap.size ≤ w1.heap.size := hB1.size
    have hjw : jb < w1.heap.size := by omega
    have hacc0 := Acc.lit0 w1 w1.heap.size 3 1 intC (Nat.le_refl _) rfl
    clear e0 e1 hR hR1 hb1 hz1 hjz
    go_wp2
    go_loopw [3, 9] (fun o i wr => ∃ k : Nat, k ≤ 6 ∧ i = .int .i64 (k : Int) ∧ Acc wr w1.heap.size 3 1 o (colorsUp cs k) intC ∧ Below w1.heap.size w1 wr) (fun _ i _ => 6 - (intOf i).toNat)
    case atStart => exact ⟨0, by omega, rfl, hacc0, (Below.refl _ _).alloc (Nat.le_refl _) _⟩
    case round =>
      clear hacc0
      obtain ⟨k, hk, rfl, hacc, hB⟩ := hrel
      have hz := hB.size
      by_cases hlt : k < 6
      · have q0 := keepcell e0r hB
        have q1 := keepcell e1r hB
        have hR3 := hR2.below hB
        have hu := HUA.out (k : Int)
        have HS := Lib.hid (colorsUp_succ cs k)
        have hcl := colorsUp_len cs k
        rcases hus : isUsed cs (k : Int) with _ | _
        · have HE := Lib.hid (show colorsUp cs (k + 1) = colorsUp cs k by rw [HS.out, hus]; simp)
          rw [hus] at hu
          go_wp2_with (go_at_call 62; refine (areaOf_any _ _ _ _ _ cs _ hR3 HOK.out hn16).mono ?_; rintro e w3 ⟨rfl, hb3⟩; have hacc3 := hacc.below hb3; have hB3 : Below w1.heap.size w1 w3 := hB.trans (hb3.mono hz))
          go_roundw
          case rel => exact ⟨k + 1, by omega, by go_num, by rw [HE.out]; exact hacc3, hB3⟩
          case measure => simp [intOf]; omega
        · have HE := Lib.hid (show colorsUp cs (k + 1) = colorsUp cs k ++ [(k : Int)] by rw [HS.out, hus]; rfl)
          rw [hus] at hu
          go_wp2_with (first | (go_at_call 62; refine (areaOf_any _ _ _ _ _ cs _ hR3 HOK.out hn16).mono ?_; rintro e w3 ⟨rfl, hb3⟩; have hacc3 := hacc.below hb3; have hB3 : Below w1.heap.size w1 w3 := hB.trans (hb3.mono hz); have hz3 : w1.heap.size ≤ w3.heap.size := hB3.size) | (at_builtin; refine wpList_acc1 rfl _ _ 25 rfl w1.heap.size 3 (.int .i64 0) 1 8 Try.underlying25 infoIntA rfl (by omega) _ _ intC (k : Int) rfl hacc3 _ _ rfl _ rfl (by simp) rfl (by simp [intC, Value.oneCell']) (by omega) (by omega) hz3 ?_; intro v' w5 hacc5 hgrow5 hat5))
          go_roundw
          case rel => exact ⟨k + 1, by omega, by go_num, by rw [HE.out]; exact hacc5, hacc3.grow_below hB3 hgrow5 (Nat.le_refl _) hz3⟩
          case measure => simp [intOf]; omega
      · obtain rfl : k = 6 := by omega
        go_wp2
        go_ret
        exact hacc.made intC_len (W := W) hzW (hB1.trans (hB.mono hzW)) rfl

end Go.Proofs.Ytkbpehklfjnjjaa
