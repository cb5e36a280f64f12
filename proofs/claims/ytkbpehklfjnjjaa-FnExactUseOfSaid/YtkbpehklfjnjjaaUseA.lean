/-
  Contracts over quilts: how often each block is shown.
-/
import Derived.Test.YtkbpehklfjnjjaaQuiB
import Derived.Test.YtkbpehklfjnjjaaFlatInt
import Derived.Test.YtkbpehklfjnjjaaAcc
set_option linter.unusedVariables false
namespace Go.Proofs.Ytkbpehklfjnjjaa
open Go.RowKit

def useStep (d : List Int) (s : Spot) : List Int := d.set s.Block.toNat (d.getD s.Block.toNat 0 + 1)
def useUp (m : Nat) (sp : List Spot) : List Int := sp.foldl useStep (List.replicate m 0)
theorem useUp_succ {m : Nat} {sp : List Spot} {k : Nat} {s : Spot} (h : sp[k]? = some s) : useUp m (sp.take (k + 1)) = (useUp m (sp.take k)).set s.Block.toNat ((useUp m (sp.take k)).getD s.Block.toNat 0 + 1) := by
  unfold useUp
  rw [List.take_add_one, h, List.foldl_append]
  rfl
theorem use_len (sp : List Spot) : ∀ d : List Int, (sp.foldl useStep d).length = d.length := by
  induction sp with
  | nil => intro d; rfl
  | cons s sp ih => intro d; rw [List.foldl_cons, ih]; simp [useStep]
theorem useUp_len (m : Nat) (sp : List Spot) : (useUp m sp).length = m := by unfold useUp; rw [use_len, List.length_replicate]
theorem use_bd (sp : List Spot) : ∀ (d : List Int) (B : Int), (∀ p, 0 ≤ d.getD p 0 ∧ d.getD p 0 ≤ B) → ∀ p, 0 ≤ (sp.foldl useStep d).getD p 0 ∧ (sp.foldl useStep d).getD p 0 ≤ B + (sp.length : Int) := by
  induction sp with
  | nil => intro d B h p; have := h p; simp only [List.foldl_nil, List.length_nil]; omega
  | cons s sp ih =>
    intro d B h p
    rw [List.foldl_cons]
    have := ih (useStep d s) (B + 1) (fun q => by
      unfold useStep
      rw [List.getD_eq_getElem?_getD, List.getElem?_set]
      have h1 := h q
      have h2 := h s.Block.toNat
      rw [List.getD_eq_getElem?_getD] at h1
      by_cases e : s.Block.toNat = q
      · rw [if_pos e]
        split
        · simp only [Option.getD_some]; omega
        · simp only [Option.getD_none]; omega
      · rw [if_neg e]; omega) p
    simp only [List.length_cons]
    omega
theorem useUp_bd (m : Nat) (sp : List Spot) (p : Nat) : 0 ≤ (useUp m sp).getD p 0 ∧ (useUp m sp).getD p 0 ≤ (sp.length : Int) := by
  have h := use_bd sp (List.replicate m 0) 0 (fun q => by
    rw [List.getD_eq_getElem?_getD, List.getElem?_replicate]
    split <;> simp) p
  unfold useUp
  omega
def useOf (w h : Int) (sp : List Spot) (bs : List Blk) : List Int := if quiltOk w h sp bs then useUp bs.length sp else []
theorem use_no {w h : Int} {sp : List Spot} {bs : List Blk} (k : quiltOk w h sp bs = false) : useOf w h sp bs = [] := by unfold useOf; rw [k]; rfl
theorem use_yes {w h : Int} {sp : List Spot} {bs : List Blk} (k : quiltOk w h sp bs = true) : useOf w h sp bs = useUp bs.length sp := by unfold useOf; rw [k]; rfl
theorem use_small (w h : Int) (sp : List Spot) (bs : List Blk) : (useOf w h sp bs).length ≤ 6 := by
  rcases k : quiltOk w h sp bs with _ | _
  · rw [use_no k]; exact Nat.zero_le _
  · rw [use_yes k, useUp_len]
    have := (qu_parts k).2.1
    omega
theorem all_at {α : Type} {p : α → Bool} {xs : List α} {k : Nat} {x : α} (h : xs.all p = true) (hx : xs[k]? = some x) : p x = true := List.all_eq_true.1 h x (List.mem_of_getElem? hx)

set_option maxRecDepth 100000 in
theorem useI_any (w h : Int) (A : Option Addr) (n c : Nat) (sp : List Spot) (B : Option Addr) (m d : Nat) (bs : List Blk) (W : World) (hR : Rd W A n 2 sp spotC) (hN : n ≤ 1048576) (hS : RdB W B m bs) (hM : m ≤ 1048576) (hr : ∀ r ∈ bs, r.2.length ≤ 1048576) :
    Calls Try.prog 40 #[.agg #[.int .i64 w, .int .i64 h, .slice A n c], .slice B m d] W (Made W (useOf w h sp bs).length 1 (useOf w h sp bs) intC) := by
  have HLB := Lib.hid hS.len
  have HLEN := Lib.hid hR.len
  obtain ⟨jb, hjb⟩ : ∃ j, Hid (j = W.heap.size) := ⟨_, rfl⟩
  have e0 : (W.alloc (.cells #[.int .i64 w, .int .i64 h, .slice A n c] 58)).cell? ⟨jb, 2, none⟩ = some (.slice A n c) := by rw [hjb.out, cell_of_row _ _ _ _ _ _ (heap_alloc_new W _)]; rfl
  have hR1 : Rd (W.alloc (.cells #[.int .i64 w, .int .i64 h, .slice A n c] 58)) A n 2 sp spotC := hR.below ((Below.refl _ _).alloc (Nat.le_refl _) _)
  have hS1 : RdB (W.alloc (.cells #[.int .i64 w, .int .i64 h, .slice A n c] 58)) B m bs := hS.below ((Below.refl _ _).alloc (Nat.le_refl _) _)
  have hBW : Below W.heap.size W (W.alloc (.cells #[.int .i64 w, .int .i64 h, .slice A n c] 58)) := (Below.refl _ _).alloc (Nat.le_refl _) _
  have hsW : W.heap.size ≤ (W.alloc (.cells #[.int .i64 w, .int .i64 h, .slice A n c] 58)).heap.size := by simp
  rcases hq : quiltOk w h sp bs with _ | _
  · have HN := Lib.hid (use_no hq)
    go_enter Try.func40, Try.ntmps40
    go_wp2_with (go_at_call 36; refine (quiltI_any _ _ _ _ _ sp _ _ _ bs _ hR1 hN hS1 hM hr).mono ?_; rintro e w1 ⟨rfl, hb1⟩; rw [hq])
    go_ret
    rw [HN.out]
    exact ⟨none, 0, rfl, Nat.le_refl _, Own.nil _ _ _ _ _ _, hBW.trans (hb1.mono hsW)⟩
  · have HY := Lib.hid (use_yes hq)
    have hp := qu_parts hq
    have hp2 := isq_parts hp.1
    have hmb := hp.2.1
    have hsq := side_bd hp2.1.1 hp2.1.2 hp2.2.1.1 hp2.2.1.2
    have hl := hp2.2.2.1
    rw [HLEN.out] at hl
    have hn36 : n ≤ 36 := by omega
    have HALL := Lib.hid hp2.2.2.2
    rw [HLB.out] at hmb
    have hm6 : m ≤ 6 := by omega
    clear hp hp2 hsq hl hmb
    have hmk := mk_eq (P := Try.prog) 25 3 (.int .i64 0) 1 8 Try.underlying25 (by kernel_rfl) m (by omega) (by omega)
    go_enter Try.func40, Try.ntmps40
    go_wp2_with fail
    refine (quiltI_any _ _ _ _ _ sp _ _ _ bs _ hR1 hN hS1 hM hr).mono ?_
    rintro e w1 ⟨rfl, hb1⟩
    rw [hq]
    try rw [← hjb.out]
    replace e0 := keepcell e0 hb1
    have hB1 := hBW.trans (hb1.mono hsW)
    have hs1 := hB1.size
    replace hR1 := hR1.below hb1
    clear hb1 hR hS hS1 hBW hsW
    have hP0 := Part.ints_made w1 3 m
    have e0m : (w1.alloc (.cells (madeCells #[Value.int .i64 0] m) 3)).cell? ⟨jb, 2, none⟩ = some (.slice A n c) := keepcell e0 ((Below.refl _ _).alloc (Nat.le_refl _) _)
    obtain ⟨g, hg⟩ : ∃ g, Hid (g = w1.heap.size) := ⟨_, rfl⟩
    go_wp2_with fail
    clear hmk
    rw [← hg.out] at hP0
    clear e0m
    try rw [← hg.out]
    have hB2 : Below w1.heap.size w1 (w1.alloc (.cells (madeCells #[Value.int .i64 0] m) 3)) := (Below.refl _ _).alloc (Nat.le_refl _) _
    generalize w1.alloc (.cells (madeCells #[Value.int .i64 0] m) 3) = w2 at hP0 hB2 ⊢
    go_loopw [18] (fun i wr => ∃ k : Nat, k ≤ n ∧ i = .int .i64 (k : Int) ∧ Below w1.heap.size w1 wr ∧ Part wr g 3 m 1 (useUp m (sp.take k)) intC m) (fun i _ => n - (intOf i).toNat)
    case atStart => exact ⟨0, Nat.zero_le _, rfl, hB2, hP0⟩
    case round =>
      clear hB2 hP0
      obtain ⟨k, hk, rfl, hB, hP⟩ := hrel
      have hz := hB.size
      by_cases hlt : k < n
      · obtain ⟨b, off, x, rfl, hbW, hx, g0, g1⟩ := hR1.spot hlt hB
        have HX := Lib.hid hx
        have hxo := all_at HALL.out hx
        clear hx
        obtain ⟨x1, x2⟩ := x
        simp only at g0 g1
        unfold spotOk at hxo
        simp only [Bool.and_eq_true, within_iff] at hxo
        rw [HLB.out] at hxo
        obtain ⟨⟨p0, p1⟩, _⟩ := hxo
        obtain ⟨p, rfl⟩ := Int.eq_ofNat_of_zero_le p0
        have hpm : p < m := by omega
        have hpI : (p : Int) < (m : Int) := by omega
        clear p0 p1
        have hglt := hP.lt
        have hcp := hP.int_at (useUp_len _ _) hpm
        have hvp := useUp_bd m (sp.take k) p
        have hkl : (sp.take k).length ≤ k := List.length_take_le _ _
        obtain ⟨vp, hp⟩ : ∃ v, Hid (v = (useUp m (sp.take k)).getD p 0) := ⟨_, rfl⟩
        rw [← hp.out] at hcp hvp
        have hvp1 : 0 ≤ vp ∧ vp ≤ 40 := by omega
        clear hvp hkl
        have hf1 : wr.frozen? ⟨g, p, none⟩ = false := hP.frozen _
        have hst : useUp m (sp.take (k + 1)) = (useUp m (sp.take k)).set p (vp + 1) := by rw [useUp_succ HX.out, hp.out]; rfl
        have HST := Lib.hid hst
        clear hst
        have hbr : b < wr.heap.size := by omega
        have hgb : ¬ g = b := by have := hg.out; omega
        have hbg : ¬ b = g := by omega
        go_wp2
        go_roundw
        case rel =>
          refine ⟨k + 1, by omega, by go_num, ?_, ?_⟩
          · have hgW := hg.out
            (repeat (first | exact Below.refl _ _ | assumption | (refine Below.drew ?_) | (refine below_drewN ?_ _) | (refine Below.alloc ?_ (by first | exact Nat.le_refl _ | (simp; done) | (simp; omega) | omega) _) | (refine Below.setCell ?_ (by first | exact Nat.le_refl _ | (simp; done) | (simp; omega) | omega) _) | (refine Below.trans ?_ (Below.mono (by assumption) (by first | exact Nat.le_refl _ | (simp; done) | (simp; omega) | omega)))))
          · rw [HST.out]
            exact (hP.int_set _).below ((Below.refl _ _).alloc (Nat.le_refl _) _)
        case measure => simp [intOf]; omega
      · go_wp2
        go_ret
        obtain rfl : k = n := by omega
        rw [List.take_of_length_le (Nat.le_of_eq HLEN.out)] at hP
        have hgW := hg.out
        rw [HY.out, HLB.out, useUp_len]
        exact ⟨some ⟨g, 0, none⟩, m, rfl, Nat.le_refl _, ⟨useUp_len _ _, fun _ => ⟨g, _, rfl, by omega, hP.lt, hP⟩⟩, hB1.trans (hB.mono hs1)⟩

set_option maxRecDepth 100000 in
theorem useS_any (w h : Int) (A : Option Addr) (n c : Nat) (sp : List Spot) (B : Option Addr) (m d : Nat) (bs : List Blk) (W : World) (hR : Rd W A n 2 sp spotC) (hN : n ≤ 1048576) (hS : RdB W B m bs) (hM : m ≤ 1048576) (hr : ∀ r ∈ bs, r.2.length ≤ 1048576) :
    Calls Try.prog 39 #[.agg #[.int .i64 w, .int .i64 h, .slice A n c], .slice B m d] W (Made W (useOf w h sp bs).length 1 (useOf w h sp bs) intC) := by
  have HLB := Lib.hid hS.len
  have HLEN := Lib.hid hR.len
  obtain ⟨jb, hjb⟩ : ∃ j, Hid (j = W.heap.size) := ⟨_, rfl⟩
  have e0 : (W.alloc (.cells #[.int .i64 w, .int .i64 h, .slice A n c] 58)).cell? ⟨jb, 2, none⟩ = some (.slice A n c) := by rw [hjb.out, cell_of_row _ _ _ _ _ _ (heap_alloc_new W _)]; rfl
  have hR1 : Rd (W.alloc (.cells #[.int .i64 w, .int .i64 h, .slice A n c] 58)) A n 2 sp spotC := hR.below ((Below.refl _ _).alloc (Nat.le_refl _) _)
  have hS1 : RdB (W.alloc (.cells #[.int .i64 w, .int .i64 h, .slice A n c] 58)) B m bs := hS.below ((Below.refl _ _).alloc (Nat.le_refl _) _)
  have hBW : Below W.heap.size W (W.alloc (.cells #[.int .i64 w, .int .i64 h, .slice A n c] 58)) := (Below.refl _ _).alloc (Nat.le_refl _) _
  have hsW : W.heap.size ≤ (W.alloc (.cells #[.int .i64 w, .int .i64 h, .slice A n c] 58)).heap.size := by simp
  have hjl : jb < (W.alloc (.cells #[.int .i64 w, .int .i64 h, .slice A n c] 58)).heap.size := by rw [hjb.out]; simp
  rcases hq : quiltOk w h sp bs with _ | _
  · have HN := Lib.hid (use_no hq)
    go_enter Try.func39, Try.ntmps39
    go_wp2_with (go_at_call 33; refine (quiltS_any _ _ _ _ _ sp _ _ _ bs _ hR1 hN hS1 hM hr).mono ?_; rintro e w1 ⟨rfl, hb1⟩; rw [hq])
    go_ret
    rw [HN.out]
    have hB1 := hBW.trans (hb1.mono hsW)
    exact ⟨_, _, rfl, Nat.le_refl _, Own.nil _ _ _ _ _ _, hB1.alloc hB1.size _⟩
  · have HY := Lib.hid (use_yes hq)
    have hp := qu_parts hq
    have hp2 := isq_parts hp.1
    have hmb := hp.2.1
    have hsq := side_bd hp2.1.1 hp2.1.2 hp2.2.1.1 hp2.2.1.2
    have hl := hp2.2.2.1
    rw [HLEN.out] at hl
    have hn36 : n ≤ 36 := by omega
    have HALL := Lib.hid hp2.2.2.2
    rw [HLB.out] at hmb
    have hm6 : m ≤ 6 := by omega
    clear hp hp2 hsq hl hmb
    have hmk := mk_eq (P := Try.prog) 25 3 (.int .i64 0) 1 8 Try.underlying25 (by kernel_rfl) m (by omega) (by omega)
    go_enter Try.func39, Try.ntmps39
    go_wp2_with fail
    refine (quiltS_any _ _ _ _ _ sp _ _ _ bs _ hR1 hN hS1 hM hr).mono ?_
    rintro e w1 ⟨rfl, hb1⟩
    rw [hq]
    try rw [← hjb.out]
    replace e0 := keepcell e0 hb1
    have hB1 := hBW.trans (hb1.mono hsW)
    have hs1 := hB1.size
    have hj1 : jb < w1.heap.size := Nat.lt_of_lt_of_le hjl hb1.size
    replace hR1 := hR1.below hb1
    clear hb1 hR hS hS1 hBW hsW hjl
    have hP0 := Part.ints_made w1 3 m
    have e0m : (w1.alloc (.cells (madeCells #[Value.int .i64 0] m) 3)).cell? ⟨jb, 2, none⟩ = some (.slice A n c) := keepcell e0 ((Below.refl _ _).alloc (Nat.le_refl _) _)
    obtain ⟨g, hg⟩ : ∃ g, Hid (g = w1.heap.size) := ⟨_, rfl⟩
    go_wp2_with fail
    clear hmk
    rw [← hg.out] at hP0
    clear e0m
    try rw [← hg.out]
    have hB2 : Below w1.heap.size w1 (w1.alloc (.cells (madeCells #[Value.int .i64 0] m) 3)) := (Below.refl _ _).alloc (Nat.le_refl _) _
    generalize w1.alloc (.cells (madeCells #[Value.int .i64 0] m) 3) = w2 at hP0 hB2 ⊢
    go_loopw [6] (fun i wr => ∃ k : Nat, k ≤ n ∧ i = .int .i64 (k : Int) ∧ Below w1.heap.size w1 wr ∧ Part wr g 3 m 1 (useUp m (sp.take k)) intC m) (fun i _ => n - (intOf i).toNat)
    case atStart => exact ⟨0, Nat.zero_le _, rfl, hB2, hP0⟩
    case round =>
      clear hB2 hP0
      obtain ⟨k, hk, rfl, hB, hP⟩ := hrel
      have hz := hB.size
      have er := keepcell e0 hB
      have hkn : (k : Int) < (n : Int) ∨ ¬ (k : Int) < (n : Int) := by omega
      by_cases hlt : k < n
      · obtain ⟨b, off, x, rfl, hbW, hx, g0, g1⟩ := hR1.spot hlt hB
        have HX := Lib.hid hx
        have hxo := all_at HALL.out hx
        clear hx hkn
        obtain ⟨x1, x2⟩ := x
        simp only at g0 g1
        unfold spotOk at hxo
        simp only [Bool.and_eq_true, within_iff] at hxo
        rw [HLB.out] at hxo
        obtain ⟨⟨p0, p1⟩, _⟩ := hxo
        obtain ⟨p, rfl⟩ := Int.eq_ofNat_of_zero_le p0
        have hpm : p < m := by omega
        have hpI : (p : Int) < (m : Int) := by omega
        have hkI : (k : Int) < (n : Int) := by omega
        clear p0 p1
        have hglt := hP.lt
        have hcp := hP.int_at (useUp_len _ _) hpm
        have hvp := useUp_bd m (sp.take k) p
        have hkl : (sp.take k).length ≤ k := List.length_take_le _ _
        obtain ⟨vp, hp⟩ : ∃ v, Hid (v = (useUp m (sp.take k)).getD p 0) := ⟨_, rfl⟩
        rw [← hp.out] at hcp hvp
        have hvp1 : 0 ≤ vp ∧ vp ≤ 40 := by omega
        clear hvp hkl
        have hf1 : wr.frozen? ⟨g, p, none⟩ = false := hP.frozen _
        have hst : useUp m (sp.take (k + 1)) = (useUp m (sp.take k)).set p (vp + 1) := by rw [useUp_succ HX.out, hp.out]; rfl
        have HST := Lib.hid hst
        clear hst
        have hbr : b < wr.heap.size := by omega
        have hgb : ¬ g = b := by have := hg.out; omega
        have hbg : ¬ b = g := by omega
        go_wp2
        go_still_tail 18, (by kernel_rfl)
        change wpList _ _ _ _ _ (World.drew wr)
        have hBd := hB.drew
        go_wp2
        go_roundw
        case rel =>
          refine ⟨k + 1, by omega, by go_num, ?_, ?_⟩
          · exact (hB.setCell (p := ⟨g, p, none⟩) (by have := hg.out; simp; omega) _).drew
          · rw [HST.out]
            exact (hP.int_set (p := p) (vp + 1)).below ((Below.refl _ _).drew)
        case measure => simp [intOf]; omega
      · go_wp2
        go_ret
        obtain rfl : k = n := by omega
        rw [List.take_of_length_le (Nat.le_of_eq HLEN.out)] at hP
        have hgW := hg.out
        rw [HY.out, HLB.out, useUp_len]
        exact ⟨some ⟨g, 0, none⟩, m, rfl, Nat.le_refl _, ⟨useUp_len _ _, fun _ => ⟨g, _, rfl, by omega, hP.lt, hP⟩⟩, hB1.trans (hB.mono hs1)⟩

end Go.Proofs.Ytkbpehklfjnjjaa
