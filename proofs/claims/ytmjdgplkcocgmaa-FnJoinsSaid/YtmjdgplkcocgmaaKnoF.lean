/-
  Contracts over cuts: a layout is split, by the reference.
-/
import Derived.Test.YtmjdgplkcocgmaaKnoE
set_option linter.unusedVariables false
set_option linter.unusedSimpArgs false
namespace Go.Proofs.Ytmjdgplkcocgmaa
open Go.RowKit

theorem pA_yes {c : Cut} {ps : List Patch} {k : Nat} {p : Patch} (hx : ps[k]? = some p) (hb : before c p = true) : partA c (ps.take k) ++ [p] = partA c (ps.take (k + 1)) := by
  unfold partA
  rw [List.take_add_one, hx, List.filter_append]
  simp [hb]
theorem pA_no {c : Cut} {ps : List Patch} {k : Nat} {p : Patch} (hx : ps[k]? = some p) (hb : before c p = false) : partA c (ps.take k) = partA c (ps.take (k + 1)) := by
  unfold partA
  rw [List.take_add_one, hx, List.filter_append]
  simp [hb]
theorem pB_yes {c : Cut} {ps : List Patch} {k : Nat} {p : Patch} (hx : ps[k]? = some p) (hb : before c p = false) : partB c (ps.take k) ++ [moved c p] = partB c (ps.take (k + 1)) := by
  unfold partB
  rw [List.take_add_one, hx, List.filter_append, List.map_append]
  simp [hb]
theorem pB_no {c : Cut} {ps : List Patch} {k : Nat} {p : Patch} (hx : ps[k]? = some p) (hb : before c p = true) : partB c (ps.take k) = partB c (ps.take (k + 1)) := by
  unfold partB
  rw [List.take_add_one, hx, List.filter_append, List.map_append]
  simp [hb]
theorem pA_len (c : Cut) (ps : List Patch) : (partA c ps).length ≤ ps.length := List.length_filter_le _ _
theorem pB_len (c : Cut) (ps : List Patch) : (partB c ps).length ≤ ps.length := by unfold partB; rw [List.length_map]; exact List.length_filter_le _ _
theorem row_set {w : World} {g o : Nat} {c : Array Value} {T : TypeId} (u : Value) (h : w.heap[g]? = some (.cells c T (0, 0))) : (w.setCell ⟨g, o, none⟩ u).heap[g]? = some (.cells (c.setIfInBounds o u) T (0, 0)) := by
  simp [World.setCell, Array.getElem?_modify, h]
theorem row_far {w : World} {b g o : Nat} (u : Value) (hne : g ≠ b) : (w.setCell ⟨b, o, none⟩ u).heap[g]? = w.heap[g]? := Below.heap_setCell w ⟨b, o, none⟩ u g hne
theorem grown_put (w : World) (g o : Nat) (u : Value) : w.grownBy (w.setCell ⟨g, o, none⟩ u) (some g) := only_setRow (World.grownBy.refl _ _) o [u]
theorem below_set {B : Nat} {a w : World} (h : Below B a w) {b o : Nat} (hb : B ≤ b) (u : Value) : Below B a (w.setCell ⟨b, o, none⟩ u) := h.setCell (p := ⟨b, o, none⟩) hb u
theorem acc_low {α : Type} {w : World} {lo sz : Nat} {e : TypeId} {v : Value} {xs : List α} {cells : α → List Value} (h : Acc w lo e sz v xs cells) {b o : Nat} (hb : b < lo) (u : Value) : Acc (w.setCell ⟨b, o, none⟩ u) lo e sz v xs cells :=
  h.kept (grown_put w b o u) (fun g hg e => by injection e with e; have := (h.row hg).1; omega)
theorem acc_new {α : Type} {w : World} {lo sz : Nat} {e : TypeId} {v : Value} {xs : List α} {cells : α → List Value} {w0 : World} (h0 : Acc w0 lo e sz v xs cells) (h : Acc w lo e sz v xs cells) {b o : Nat} (hb : w0.heap.size ≤ b) (u : Value) : Acc (w.setCell ⟨b, o, none⟩ u) lo e sz v xs cells :=
  h.kept (grown_put w b o u) (fun g hg e => by injection e with e; have := (h0.row hg).2; omega)
theorem acc_own {α : Type} {w : World} {lo sz c lo' : Nat} {e : TypeId} {A : Option Addr} {xs : List α} {cells : α → List Value} (h : Acc w lo e sz (.slice A xs.length c) xs cells) (hl : ∀ y, (cells y).length = sz) (hlo : lo' ≤ lo) : Own w lo' w.heap.size A xs.length sz xs cells := by
  obtain ⟨A', c', ev, _, ho⟩ := h.own hl
  injection ev with e1 e2 e3
  subst e1
  exact ho.mono hlo (Nat.le_refl _)
theorem own_set {α : Type} {w : World} {lo hi sz n : Nat} {A : Option Addr} {xs : List α} {cells : α → List Value} (h : Own w lo hi A n sz xs cells) {b : Nat} (hb : b < lo ∨ hi ≤ b) (o : Nat) (u : Value) : Own (w.setCell ⟨b, o, none⟩ u) lo hi A n sz xs cells :=
  h.only (lo' := b) (hi' := b + 1) ⟨rfl, rfl, rfl, by simp [World.setCell], fun j hj hd => Below.heap_setCell w ⟨b, o, none⟩ u j (by show j ≠ b; omega)⟩ (by omega)
theorem acc_rd {α : Type} {w : World} {lo sz c : Nat} {e : TypeId} {A : Option Addr} {xs : List α} {cells : α → List Value} (h : Acc w lo e sz (.slice A xs.length c) xs cells) (hl : ∀ y, (cells y).length = sz) : Rd w A xs.length sz xs cells := by
  obtain ⟨A', c', ev, _, ho⟩ := h.own hl
  injection ev with e1 e2 e3
  subst e1
  exact ho.rd
theorem set_size (w : World) (b o : Nat) (u : Value) : (w.setCell ⟨b, o, none⟩ u).heap.size = w.heap.size := by simp [World.setCell]
theorem cell_blk {w w' : World} {b o : Nat} {v : Value} (h : w.cell? ⟨b, o, none⟩ = some v) (e : w'.heap[b]? = w.heap[b]?) : w'.cell? ⟨b, o, none⟩ = some v := (World.cell?_of_block (a := ⟨b, o, none⟩) e).trans h
theorem fz_blk {w w' : World} {b o : Nat} (h : w.frozen? ⟨b, o, none⟩ = false) (e : w'.heap[b]? = w.heap[b]?) : w'.frozen? ⟨b, o, none⟩ = false := (World.frozen?_of_block (a := ⟨b, o, none⟩) e).trans h

set_option maxRecDepth 100000 in
set_option maxHeartbeats 4000000 in
theorem splitS_any (w h : Int) (A : Option Addr) (n c : Nat) (ps : List Patch) (up : Bool) (at' : Int) (W : World) (hR : Rd W A n 5 ps patchC) (hN : n ≤ 1048576) (hK : isCut w h ps ⟨up, at'⟩ = true) :
    Calls Try.prog 86 #[.agg #[.int .i64 w, .int .i64 h, .slice A n c], .agg #[.bool up, .int .i64 at']] W fun e w' => ∃ A1 n1 c1 A2 n2 c2, e = .returned (.tuple #[.agg #[.int .i64 (wA w ⟨up, at'⟩), .int .i64 (hA h ⟨up, at'⟩), .slice A1 n1 c1], .agg #[.int .i64 (wB w ⟨up, at'⟩), .int .i64 (hB h ⟨up, at'⟩), .slice A2 n2 c2], .bool true]) ∧ Own w' W.heap.size w'.heap.size A1 n1 5 (partA ⟨up, at'⟩ ps) patchC ∧ Own w' W.heap.size w'.heap.size A2 n2 5 (partB ⟨up, at'⟩ ps) patchC ∧ Below W.heap.size W w' := by
  have HLEN := Lib.hid hR.len
  obtain ⟨hlok, hib, _⟩ := cut_parts hK
  obtain ⟨hw, hh, hn12, hall, _, _⟩ := layout_parts hlok
  rw [HLEN.out] at hn12
  have HALL := Lib.hid hall
  have HK := Lib.hid hK
  have hw12 := hw.2
  have hh12 := hh.2
  have hw1 := hw.1
  have hh1 := hh.1
  clear hlok hall hw hh hK
  obtain ⟨jb, hjb⟩ : ∃ j, Hid (W.heap.size = j) := ⟨_, rfl⟩
  obtain ⟨wa, hwa⟩ : ∃ v, Hid (W.alloc (.cells #[.int .i64 w, .int .i64 h, .slice A n c] 30) = v) := ⟨_, rfl⟩
  have rjb : wa.heap[jb]? = some (.cells #[.int .i64 w, .int .i64 h, .slice A n c] 30 (0, 0)) := by rw [← hwa.out, ← hjb.out]; exact heap_alloc_new W _
  have bwa : Below W.heap.size W wa := by rw [← hwa.out]; exact (Below.refl _ _).alloc (Nat.le_refl _) _
  have swa : wa.heap.size = jb + 1 := by rw [← hwa.out, ← hjb.out]; simp
  obtain ⟨jc, hjc⟩ : ∃ j, Hid (wa.heap.size = j) := ⟨_, rfl⟩
  obtain ⟨wb, hwb⟩ : ∃ v, Hid (wa.alloc (.cells #[.bool up, .int .i64 at'] 72) = v) := ⟨_, rfl⟩
  have rjc : wb.heap[jc]? = some (.cells #[.bool up, .int .i64 at'] 72 (0, 0)) := by rw [← hwb.out, ← hjc.out]; exact heap_alloc_new wa _
  have bwb : Below wa.heap.size wa wb := by rw [← hwb.out]; exact (Below.refl _ _).alloc (Nat.le_refl _) _
  have swb : wb.heap.size = jc + 1 := by rw [← hwb.out, ← hjc.out]; simp
  obtain ⟨r4, hr4⟩ : ∃ j, Hid (wb.heap.size = j) := ⟨_, rfl⟩
  obtain ⟨wc, hwc⟩ : ∃ v, Hid (wb.alloc (.cells #[.int .i64 0, .int .i64 0, .slice none 0 0] 30) = v) := ⟨_, rfl⟩
  have rr4 : wc.heap[r4]? = some (.cells #[.int .i64 0, .int .i64 0, .slice none 0 0] 30 (0, 0)) := by rw [← hwc.out, ← hr4.out]; exact heap_alloc_new wb _
  have bwc : Below wb.heap.size wb wc := by rw [← hwc.out]; exact (Below.refl _ _).alloc (Nat.le_refl _) _
  have swc : wc.heap.size = r4 + 1 := by rw [← hwc.out, ← hr4.out]; simp
  obtain ⟨r5, hr5⟩ : ∃ j, Hid (wc.heap.size = j) := ⟨_, rfl⟩
  obtain ⟨wd, hwd⟩ : ∃ v, Hid (wc.alloc (.cells #[.int .i64 0, .int .i64 0, .slice none 0 0] 30) = v) := ⟨_, rfl⟩
  have rr5 : wd.heap[r5]? = some (.cells #[.int .i64 0, .int .i64 0, .slice none 0 0] 30 (0, 0)) := by rw [← hwd.out, ← hr5.out]; exact heap_alloc_new wc _
  have bwd : Below wc.heap.size wc wd := by rw [← hwd.out]; exact (Below.refl _ _).alloc (Nat.le_refl _) _
  have swd : wd.heap.size = r5 + 1 := by rw [← hwd.out, ← hr5.out]; simp
  have h1b : jc = jb + 1 := by rw [← hjc.out, swa]
  have h2b : r4 = jb + 2 := by rw [← hr4.out, swb]; omega
  have h3b : r5 = jb + 3 := by rw [← hr5.out, swc]; omega
  have h4b : wd.heap.size = jb + 4 := by omega
  have h0b : W.heap.size = jb := hjb.out
  have hBd : Below W.heap.size W wd := ((bwa.trans (bwb.mono bwa.size)).trans (bwc.mono (by omega))).trans (bwd.mono (by omega))
  have qjb : wd.heap[jb]? = _ := (bwd.block jb (by omega)).trans ((bwc.block jb (by omega)).trans ((bwb.block jb (by omega)).trans rjb))
  have qjc : wd.heap[jc]? = _ := (bwd.block jc (by omega)).trans ((bwc.block jc (by omega)).trans rjc)
  have qr4 : wd.heap[r4]? = _ := (bwd.block r4 (by omega)).trans rr4
  have qr5 : wd.heap[r5]? = _ := rr5
  have hRd := hR.below hBd
  have X1 : Hid (W.heap.size + 1 = jc) := by show _ = _; omega
  have X2 : Hid (W.heap.size + 1 + 1 = r4) := by show _ = _; omega
  have X3 : Hid (W.heap.size + 1 + 1 + 1 = r5) := by show _ = _; omega
  have HJ := Lib.hid (And.intro h0b (And.intro h1b (And.intro h2b (And.intro h3b h4b))))
  clear rjb rjc rr4 rr5 bwa bwb bwc bwd swa swb swc swd h0b h1b h2b h3b h4b
  have e0 : wd.cell? ⟨jb, 0, none⟩ = some (.int .i64 w) := by rw [cell_of_row _ _ _ _ _ _ qjb]; rfl
  have e1 : wd.cell? ⟨jb, 1, none⟩ = some (.int .i64 h) := by rw [cell_of_row _ _ _ _ _ _ qjb]; rfl
  have e2 : wd.cell? ⟨jb, 2, none⟩ = some (.slice A n c) := by rw [cell_of_row _ _ _ _ _ _ qjb]; rfl
  have c0 : wd.cell? ⟨jc, 0, none⟩ = some (.bool up) := by rw [cell_of_row _ _ _ _ _ _ qjc]; rfl
  have c1 : wd.cell? ⟨jc, 1, none⟩ = some (.int .i64 at') := by rw [cell_of_row _ _ _ _ _ _ qjc]; rfl
  go_enter Try.func86, Try.ntmps86
  go_wp2_with (first | rw [hwa.out] | rw [hwb.out] | rw [hwc.out] | rw [hwd.out] | rw [hjb.out] | rw [hjc.out] | rw [hr4.out] | rw [hr5.out] | rw [X3.out] | rw [X2.out] | rw [X1.out])
  refine (isCutS_any _ _ _ _ _ ps _ _ _ hRd hN).mono ?_
  rintro e w1 ⟨rfl, hb1⟩
  rw [HK.out]
  have hB1 := hBd.trans (hb1.mono hBd.size)
  have hs1 := hB1.size
  have hz1 := hb1.size
  have hR1 := hRd.below hb1
  have hj := HJ.out
  replace qjb := (hb1.block jb (by omega)).trans qjb
  replace qjc := (hb1.block jc (by omega)).trans qjc
  replace qr4 := (hb1.block r4 (by omega)).trans qr4
  replace qr5 := (hb1.block r5 (by omega)).trans qr5
  replace e0 := keepcell e0 hb1
  replace e1 := keepcell e1 hb1
  replace e2 := keepcell e2 hb1
  replace c0 := keepcell c0 hb1
  replace c1 := keepcell c1 hb1
  clear hb1 hRd hBd HK
  obtain ⟨ja, hja⟩ : ∃ j, Hid (w1.heap.size = j) := ⟨_, rfl⟩
  obtain ⟨we, hwe⟩ : ∃ v, Hid (w1.alloc (.cells #[.int .i64 w, .int .i64 at', .slice none 0 0] 30) = v) := ⟨_, rfl⟩
  have rja : we.heap[ja]? = some (.cells #[.int .i64 w, .int .i64 at', .slice none 0 0] 30 (0, 0)) := by rw [← hwe.out, ← hja.out]; exact heap_alloc_new w1 _
  have bwe : Below w1.heap.size w1 we := by rw [← hwe.out]; exact (Below.refl _ _).alloc (Nat.le_refl _) _
  have swe : we.heap.size = ja + 1 := by rw [← hwe.out, ← hja.out]; simp
  obtain ⟨jd, hjd⟩ : ∃ j, Hid (we.heap.size = j) := ⟨_, rfl⟩
  obtain ⟨wf, hwf⟩ : ∃ v, Hid (we.alloc (.cells #[.int .i64 w, .int .i64 (h - at'), .slice none 0 0] 30) = v) := ⟨_, rfl⟩
  have rjd : wf.heap[jd]? = some (.cells #[.int .i64 w, .int .i64 (h - at'), .slice none 0 0] 30 (0, 0)) := by rw [← hwf.out, ← hjd.out]; exact heap_alloc_new we _
  have bwf : Below we.heap.size we wf := by rw [← hwf.out]; exact (Below.refl _ _).alloc (Nat.le_refl _) _
  have swf : wf.heap.size = jd + 1 := by rw [← hwf.out, ← hjd.out]; simp
  have hjad : jd = ja + 1 := by rw [← hjd.out, swe]
  have hjaz : w1.heap.size = ja := hja.out
  have qja : wf.heap[ja]? = _ := (bwf.block ja (by omega)).trans rja
  have qjd : wf.heap[jd]? = _ := rjd
  have bef := bwe.trans (bwf.mono bwe.size)
  replace qjb := (bef.block jb (by omega)).trans qjb
  replace qjc := (bef.block jc (by omega)).trans qjc
  replace qr4 := (bef.block r4 (by omega)).trans qr4
  replace qr5 := (bef.block r5 (by omega)).trans qr5
  have hBf := hB1.trans (bef.mono hs1)
  have hRf := hR1.below bef
  obtain ⟨lo, hlo⟩ : ∃ l, Hid (wf.heap.size = l) := ⟨_, rfl⟩
  have hlod : lo = jd + 1 := by rw [← hlo.out, swf]
  have Y1 : Hid (w1.heap.size + 1 = jd) := by show _ = _; omega
  have m0 := keepcell e0 bwe
  have m1 := keepcell e1 bwe
  have m2 := keepcell e2 bwe
  have k0 := keepcell c0 bwe
  have k1 := keepcell c1 bwe
  have l0 := keepcell e0 bef
  have l1 := keepcell e1 bef
  have l2 := keepcell e2 bef
  have o0 := keepcell c0 bef
  have o1 := keepcell c1 bef
  have HS := Lib.hid (And.intro hj (And.intro hz1 (And.intro hjaz (And.intro hjad hlod))))
  clear rja rjd bwe swe swf bwf bef hB1 hs1 hR1 hj hz1 hjaz hjad hlod
  cases up
  · have hat : 1 ≤ at' ∧ at' ≤ h - 1 := hib
    obtain ⟨w0, hw0⟩ : ∃ v, Hid (wf = v) := ⟨_, rfl⟩
    have hs := HS.out
    have qja0 : w0.heap[ja]? = some (.cells #[.int .i64 w, .int .i64 at', .slice none 0 0] 30 (0, 0)) := by rw [← hw0.out]; exact qja
    have qjd0 : w0.heap[jd]? = some (.cells #[.int .i64 w, .int .i64 (h - at'), .slice none 0 0] 30 (0, 0)) := by rw [← hw0.out]; exact qjd
    have hfar : ∀ g, g ≠ ja → g ≠ jd → w0.heap[g]? = wf.heap[g]? := fun g g1 g2 => by rw [← hw0.out]
    have hB0 : Below W.heap.size W w0 := by rw [← hw0.out]; exact hBf
    have hs0 : w0.heap.size = lo := by rw [← hw0.out]; exact hlo.out
    have v2 := cell_blk l2 (hfar jb (by omega) (by omega))
    have z0 := cell_blk o0 (hfar jc (by omega) (by omega))
    have z1 := cell_blk o1 (hfar jc (by omega) (by omega))
    have HS0 := Lib.hid hs0
    clear hs hs0
    go_wp2_with (first | (rw [hwe.out]; (try rw [hja.out])) | (rw [hwf.out]; (try rw [hjd.out])))
    rw [hw0.out]
    have hs := HS.out
    have hs0 := HS0.out
    have Qjb := (hfar jb (by omega) (by omega)).trans qjb
    have Qjc := (hfar jc (by omega) (by omega)).trans qjc
    have Qr4 := (hfar r4 (by omega) (by omega)).trans qr4
    have Qr5 := (hfar r5 (by omega) (by omega)).trans qr5
    have hR0 := hRf
    clear e0 e1 e2 c0 c1 m0 m1 m2 k0 k1 l0 l1 l2 o0 o1 hRf hR0 qja qjd qjb qjc qr4 qr5 hBf hfar
    have HL0 := Lib.hid (Nat.le_of_eq hs0.symm)
    clear hs hs0
    go_loopw [9] (fun i wr => ∃ (k : Nat) (va vd : Value), k ≤ n ∧ i = .int .i64 (k : Int) ∧ wr.heap[ja]? = some (.cells #[.int .i64 w, .int .i64 at', va] 30 (0, 0)) ∧ wr.heap[jd]? = some (.cells #[.int .i64 w, .int .i64 (h - at'), vd] 30 (0, 0)) ∧ Acc wr lo 44 5 va (partA ⟨false, at'⟩ (ps.take k)) patchC ∧ Acc wr lo 44 5 vd (partB ⟨false, at'⟩ (ps.take k)) patchC ∧ Dis va vd ∧ Hid (∀ g, g < lo → g ≠ ja → g ≠ jd → wr.heap[g]? = w0.heap[g]?) ∧ Below W.heap.size W wr ∧ lo ≤ wr.heap.size) (fun i _ => n - (intOf i).toNat)
    case atStart => exact ⟨0, .slice none 0 0, .slice none 0 0, Nat.zero_le _, rfl, qja0, qjd0, by simpa [partA] using Acc.nil _ _ _ _ _, by simpa [partB] using Acc.nil _ _ _ _ _, fun g hg => by simp [Value.ownBlock] at hg, fun g _ _ _ => rfl, hB0, HL0.out⟩
    case round =>
      clear qja0 qjd0 hB0
      obtain ⟨k, va, vd, hk, rfl, qa, qd, hacA, hacB, hdis, hF, hB, hlz⟩ := hrel
      have hz := hB.size
      have hs := HS.out
      have ca2 : wr.cell? ⟨ja, 2, none⟩ = some va := by rw [cell_of_row _ _ _ _ _ _ qa]; rfl
      have cd2 : wr.cell? ⟨jd, 2, none⟩ = some vd := by rw [cell_of_row _ _ _ _ _ _ qd]; rfl
      have d2 := cell_blk v2 (hF.out jb (by omega) (by omega) (by omega))
      have d0_ := cell_blk z0 (hF.out jc (by omega) (by omega) (by omega))
      have d1_ := cell_blk z1 (hF.out jc (by omega) (by omega) (by omega))
      by_cases hlt : k < n
      · obtain ⟨b, off, x, rfl, hbW, hx, p0, p1, p2, p3, p4⟩ := hR.patch hlt hB
        have HX := Lib.hid hx
        have hbd := patch_bd (all_at' HALL.out hx) hw12 hh12
        clear hx
        obtain ⟨x0, x1, x2, x3, x4⟩ := x
        simp only at p0 p1 p2 p3 p4 hbd
        have hkI : (k : Int) < (n : Int) := by omega
        have hla := pA_len ⟨false, at'⟩ (ps.take k)
        have hlb := pB_len ⟨false, at'⟩ (ps.take k)
        have hlk : (ps.take k).length ≤ k := List.length_take_le _ _
        have hWlo : W.heap.size ≤ lo := by have := hjb.out; omega
        obtain ⟨wp, hwp⟩ : ∃ v, Hid (wr.alloc (.cells #[.int .i64 x0, .int .i64 x1, .int .i64 x2, .int .i64 x3, .int .i64 x4] 44) = v) := ⟨_, rfl⟩
        obtain ⟨jp, hjp⟩ : ∃ j, Hid (wr.heap.size = j) := ⟨_, rfl⟩
        have rp : wp.heap[jp]? = some (.cells #[.int .i64 x0, .int .i64 x1, .int .i64 x2, .int .i64 x3, .int .i64 x4] 44 (0, 0)) := by rw [← hwp.out, ← hjp.out]; exact heap_alloc_new wr _
        have g0 : wp.cell? ⟨jp, 0, none⟩ = some (.int .i64 x0) := by rw [cell_of_row _ _ _ _ _ _ rp]; rfl
        have g1 : wp.cell? ⟨jp, 1, none⟩ = some (.int .i64 x1) := by rw [cell_of_row _ _ _ _ _ _ rp]; rfl
        have g2 : wp.cell? ⟨jp, 2, none⟩ = some (.int .i64 x2) := by rw [cell_of_row _ _ _ _ _ _ rp]; rfl
        have g3 : wp.cell? ⟨jp, 3, none⟩ = some (.int .i64 x3) := by rw [cell_of_row _ _ _ _ _ _ rp]; rfl
        have g4 : wp.cell? ⟨jp, 4, none⟩ = some (.int .i64 x4) := by rw [cell_of_row _ _ _ _ _ _ rp]; rfl
        have bp : Below wr.heap.size wr wp := by rw [← hwp.out]; exact (Below.refl _ _).alloc (Nat.le_refl _) _
        have sp : wp.heap.size = jp + 1 := by rw [← hwp.out, ← hjp.out]; simp
        have hjpe : wr.heap.size = jp := hjp.out
        have hBp := hB.trans (bp.mono hz)
        have u2 := keepcell d2 bp
        have u0_ := keepcell d0_ bp
        have u1_ := keepcell d1_ bp
        have ua2 := keepcell ca2 bp
        have ud2 := keepcell cd2 bp
        have qap := (bp.block ja (by omega)).trans qa
        have qdp := (bp.block jd (by omega)).trans qd
        by_cases y9 : at' ≤ x1
        · have HBF : Hid (before ⟨false, at'⟩ ⟨x0, x1, x2, x3, x4⟩ = false) := (decide_eq_false (show ¬ x1 < at' by omega) : decide (x1 < at') = false)
          obtain ⟨wq, hwq⟩ : ∃ v, Hid (wp.setCell ⟨jp, 1, none⟩ (.int .i64 (x1 - at')) = v) := ⟨_, rfl⟩
          have hqb : ∀ g, g < jp → wq.heap[g]? = wr.heap[g]? := fun g hg => by rw [← hwq.out, row_far _ (by omega)]; exact bp.block g (by omega)
          have hBq : Below W.heap.size W wq := by rw [← hwq.out]; exact below_set hBp (by omega) _
          have sq : wq.heap.size = jp + 1 := by rw [← hwq.out, set_size]; exact sp
          have haq : Acc wq lo 44 5 va (partA ⟨false, at'⟩ (ps.take k)) patchC := by rw [← hwq.out]; exact acc_new hacA (hacA.below bp) (Nat.le_of_eq hjpe) _
          have hbq : Acc wq lo 44 5 vd (partB ⟨false, at'⟩ (ps.take k)) patchC := by rw [← hwq.out]; exact acc_new hacB (hacB.below bp) (Nat.le_of_eq hjpe) _
          have fg : wp.frozen? ⟨jp, 1, none⟩ = false := frozen_of_row _ _ _ _ _ rp
          have rq := row_set (o := 1) (.int .i64 (x1 - at')) rp
          rw [hwq.out] at rq
          have y0 : wq.cell? ⟨jp, 0, none⟩ = some (.int .i64 x0) := by rw [cell_of_row _ _ _ _ _ _ rq]; rfl
          have y1 : wq.cell? ⟨jp, 1, none⟩ = some (.int .i64 (x1 - at')) := by rw [cell_of_row _ _ _ _ _ _ rq]; rfl
          have y2 : wq.cell? ⟨jp, 2, none⟩ = some (.int .i64 x2) := by rw [cell_of_row _ _ _ _ _ _ rq]; rfl
          have y3 : wq.cell? ⟨jp, 3, none⟩ = some (.int .i64 x3) := by rw [cell_of_row _ _ _ _ _ _ rq]; rfl
          have y4 : wq.cell? ⟨jp, 4, none⟩ = some (.int .i64 x4) := by rw [cell_of_row _ _ _ _ _ _ rq]; rfl
          have hsub : IntKind.i64.wrap (x1 - at') = x1 - at' := by simp (disch := omega) only [IntWalk.i64_in]
          have qaq := (hqb ja (by omega)).trans qa
          have qdq := (hqb jd (by omega)).trans qd
          have xa2 : wq.cell? ⟨jd, 2, none⟩ = some vd := by rw [cell_of_row _ _ _ _ _ _ qdq]; rfl
          have w0_ := cell_blk d0_ (hqb jc (by omega))
          have w1_ := cell_blk d1_ (hqb jc (by omega))
          have hjq : jd < lo := by omega
          have hloq : lo ≤ wq.heap.size := by omega
          have hln : (partB ⟨false, at'⟩ (ps.take k)).length + 1 ≤ 4294967296 := by omega
          clear qap qdp rp bp rq
          have HSQ := Lib.hid sq
          clear hs hjpe sp sq
          go_wp2_with (first | (rw [hwp.out]; (try rw [hjp.out])) | rw [hwq.out] | (at_builtin; refine wpList_acc1 rfl _ _ 28 rfl lo 44 (.agg #[.int .i64 0, .int .i64 0, .int .i64 0, .int .i64 0, .int .i64 0]) 5 40 Try.underlying28 infoPatch rfl (by omega) _ _ patchC ⟨x0, (x1 - at'), x2, x3, x4⟩ rfl hbq _ _ rfl _ rfl (by simp) rfl (by simp [patchC, Value.oneCell']) hln (by omega) hloq ?_; intro v7 w7 hacc7 hgrow7 hat7; have hch7 : ∀ g, g < lo → w7.heap[g]? = wq.heap[g]? := fun g hg => hgrow7.block g (by omega) (fun e => by have := (hbq.row e.symm).1; omega); have f7 : w7.frozen? ⟨jd, 2, none⟩ = false := frozen_of_row _ _ _ _ _ ((hch7 jd hjq).trans qdq); have c7 := cell_blk xa2 (hch7 jd hjq); obtain ⟨A7, c7', e8, _, _⟩ := hacc7.own patchC_len; obtain ⟨L7, e7⟩ : ∃ L : Nat, v7 = .slice A7 L c7' := ⟨_, e8⟩; have E7 := Lib.hid e7; rw [e7]; clear e7 e8))
          go_roundw
          case rel =>
            rw [← E7.out]
            have hs := HS.out
            have hjpe := hjp.out
            have sq := HSQ.out
            have hoth := haq.kept hgrow7 (fun g hg => hdis g hg)
            have hrow : ∀ g, va.ownBlock = some g → g < wq.heap.size + 1 := fun g hg => by have := (haq.row hg).2; omega
            have hd7 := hdis.right hat7 hrow
            have hkeep : ∀ g, g < lo → g ≠ ja → g ≠ jd → (w7.setCell ⟨jd, 2, none⟩ v7).heap[g]? = w0.heap[g]? := fun g h1 h2 h3 => by rw [row_far _ (by omega)]; exact (hch7 g h1).trans ((hqb g (by omega)).trans (hF.out g h1 h2 h3))
            have qa8 := (row_far (w := w7) (b := jd) (o := 2) v7 (show ja ≠ jd by omega)).trans ((hch7 ja (by omega)).trans qaq)
            have qd8 := row_set v7 (o := 2) ((hch7 jd (by omega)).trans qdq)
            have hB7 := hbq.grow_below hBq hgrow7 hWlo hBq.size
            exact ⟨k + 1, va, v7, by omega, by go_num, qa8, qd8, by rw [← pA_no HX.out HBF.out]; exact acc_low hoth (by omega) _, by rw [← pB_yes HX.out HBF.out]; exact acc_low hacc7 (by omega) _, hd7, hkeep, below_set hB7 (by omega) _, by rw [set_size]; exact Nat.le_trans hloq hgrow7.size⟩
          case measure => simp [intOf]; omega
        · have HBF : Hid (before ⟨false, at'⟩ ⟨x0, x1, x2, x3, x4⟩ = true) := (decide_eq_true (show x1 < at' by omega) : decide (x1 < at') = true)
          have y8 : x1 < at' := by omega
          obtain ⟨wq, hwq⟩ : ∃ v, Hid (wp = v) := ⟨_, rfl⟩
          have hqb : ∀ g, g < jp → wq.heap[g]? = wr.heap[g]? := fun g hg => by rw [← hwq.out]; exact bp.block g (by omega)
          have hBq : Below W.heap.size W wq := by rw [← hwq.out]; exact hBp
          have sq : wq.heap.size = jp + 1 := by rw [← hwq.out]; exact sp
          have haq : Acc wq lo 44 5 va (partA ⟨false, at'⟩ (ps.take k)) patchC := by rw [← hwq.out]; exact hacA.below bp
          have hbq : Acc wq lo 44 5 vd (partB ⟨false, at'⟩ (ps.take k)) patchC := by rw [← hwq.out]; exact hacB.below bp
          have y0 : wq.cell? ⟨jp, 0, none⟩ = some (.int .i64 x0) := by rw [← hwq.out]; exact g0
          have y1 : wq.cell? ⟨jp, 1, none⟩ = some (.int .i64 x1) := by rw [← hwq.out]; exact g1
          have y2 : wq.cell? ⟨jp, 2, none⟩ = some (.int .i64 x2) := by rw [← hwq.out]; exact g2
          have y3 : wq.cell? ⟨jp, 3, none⟩ = some (.int .i64 x3) := by rw [← hwq.out]; exact g3
          have y4 : wq.cell? ⟨jp, 4, none⟩ = some (.int .i64 x4) := by rw [← hwq.out]; exact g4
          have qaq := (hqb ja (by omega)).trans qa
          have qdq := (hqb jd (by omega)).trans qd
          have xa2 : wq.cell? ⟨ja, 2, none⟩ = some va := by rw [cell_of_row _ _ _ _ _ _ qaq]; rfl
          have w0_ := cell_blk d0_ (hqb jc (by omega))
          have w1_ := cell_blk d1_ (hqb jc (by omega))
          have hjq : ja < lo := by omega
          have hloq : lo ≤ wq.heap.size := by omega
          have hln : (partA ⟨false, at'⟩ (ps.take k)).length + 1 ≤ 4294967296 := by omega
          clear qap qdp rp bp
          rw [hwq.out] at g0 g1 g2 g3 g4 u2 u0_ u1_ ua2 ud2 hwp
          have HSQ := Lib.hid sq
          clear hs hjpe sp sq
          go_wp2_with (first | (rw [hwp.out]; (try rw [hjp.out])) | (at_builtin; refine wpList_acc1 rfl _ _ 28 rfl lo 44 (.agg #[.int .i64 0, .int .i64 0, .int .i64 0, .int .i64 0, .int .i64 0]) 5 40 Try.underlying28 infoPatch rfl (by omega) _ _ patchC ⟨x0, x1, x2, x3, x4⟩ rfl haq _ _ rfl _ rfl (by simp) rfl (by simp [patchC, Value.oneCell']) hln (by omega) hloq ?_; intro v7 w7 hacc7 hgrow7 hat7; have hch7 : ∀ g, g < lo → w7.heap[g]? = wq.heap[g]? := fun g hg => hgrow7.block g (by omega) (fun e => by have := (haq.row e.symm).1; omega); have f7 : w7.frozen? ⟨ja, 2, none⟩ = false := frozen_of_row _ _ _ _ _ ((hch7 ja hjq).trans qaq); have c7 := cell_blk xa2 (hch7 ja hjq); obtain ⟨A7, c7', e8, _, _⟩ := hacc7.own patchC_len; obtain ⟨L7, e7⟩ : ∃ L : Nat, v7 = .slice A7 L c7' := ⟨_, e8⟩; have E7 := Lib.hid e7; rw [e7]; clear e7 e8))
          go_roundw
          case rel =>
            rw [← E7.out]
            have hs := HS.out
            have hjpe := hjp.out
            have sq := HSQ.out
            have hoth := hbq.kept hgrow7 (fun g hg => hdis.symm g hg)
            have hrow : ∀ g, vd.ownBlock = some g → g < wq.heap.size + 1 := fun g hg => by have := (hbq.row hg).2; omega
            have hd7 := hdis.left hat7 hrow
            have hkeep : ∀ g, g < lo → g ≠ ja → g ≠ jd → (w7.setCell ⟨ja, 2, none⟩ v7).heap[g]? = w0.heap[g]? := fun g h1 h2 h3 => by rw [row_far _ (by omega)]; exact (hch7 g h1).trans ((hqb g (by omega)).trans (hF.out g h1 h2 h3))
            have qa8 := row_set v7 (o := 2) ((hch7 ja (by omega)).trans qaq)
            have qd8 := (row_far (w := w7) (b := ja) (o := 2) v7 (show jd ≠ ja by omega)).trans ((hch7 jd (by omega)).trans qdq)
            have hB7 := haq.grow_below hBq hgrow7 hWlo hBq.size
            exact ⟨k + 1, v7, vd, by omega, by go_num, qa8, qd8, by rw [← pA_yes HX.out HBF.out]; exact acc_low hacc7 (by omega) _, by rw [← pB_no HX.out HBF.out]; exact acc_low hoth (by omega) _, hd7, hkeep, below_set hB7 (by omega) _, by rw [set_size]; exact Nat.le_trans hloq hgrow7.size⟩
          case measure => simp [intOf]; omega
      · obtain rfl : k = n := by omega
        rw [List.take_of_length_le (Nat.le_of_eq HLEN.out)] at hacA hacB
        obtain ⟨A1, c1, rfl, _, hO1⟩ := hacA.own patchC_len
        obtain ⟨A2, c2, rfl, _, hO2⟩ := hacB.own patchC_len
        have Z4 := (hF.out r4 (by omega) (by omega) (by omega)).trans Qr4
        have Z5 := (hF.out r5 (by omega) (by omega) (by omega)).trans Qr5
        have ca0 : wr.cell? ⟨ja, 0, none⟩ = some (.int .i64 w) := by rw [cell_of_row _ _ _ _ _ _ qa]; rfl
        have ca1 : wr.cell? ⟨ja, 1, none⟩ = some (.int .i64 at') := by rw [cell_of_row _ _ _ _ _ _ qa]; rfl
        have cd0 : wr.cell? ⟨jd, 0, none⟩ = some (.int .i64 w) := by rw [cell_of_row _ _ _ _ _ _ qd]; rfl
        have cd1 : wr.cell? ⟨jd, 1, none⟩ = some (.int .i64 (h - at')) := by rw [cell_of_row _ _ _ _ _ _ qd]; rfl
        have zr4_0 : wr.cell? ⟨r4, 0, none⟩ = some (.int .i64 0) := by rw [cell_of_row _ _ _ _ _ _ Z4]; rfl
        have zf4_0 : wr.frozen? ⟨r4, 0, none⟩ = false := frozen_of_row _ _ _ _ _ Z4
        have zr4_1 : wr.cell? ⟨r4, 1, none⟩ = some (.int .i64 0) := by rw [cell_of_row _ _ _ _ _ _ Z4]; rfl
        have zf4_1 : wr.frozen? ⟨r4, 1, none⟩ = false := frozen_of_row _ _ _ _ _ Z4
        have zr4_2 : wr.cell? ⟨r4, 2, none⟩ = some (.slice none 0 0) := by rw [cell_of_row _ _ _ _ _ _ Z4]; rfl
        have zf4_2 : wr.frozen? ⟨r4, 2, none⟩ = false := frozen_of_row _ _ _ _ _ Z4
        have zr5_0 : wr.cell? ⟨r5, 0, none⟩ = some (.int .i64 0) := by rw [cell_of_row _ _ _ _ _ _ Z5]; rfl
        have zf5_0 : wr.frozen? ⟨r5, 0, none⟩ = false := frozen_of_row _ _ _ _ _ Z5
        have zr5_1 : wr.cell? ⟨r5, 1, none⟩ = some (.int .i64 0) := by rw [cell_of_row _ _ _ _ _ _ Z5]; rfl
        have zf5_1 : wr.frozen? ⟨r5, 1, none⟩ = false := frozen_of_row _ _ _ _ _ Z5
        have zr5_2 : wr.cell? ⟨r5, 2, none⟩ = some (.slice none 0 0) := by rw [cell_of_row _ _ _ _ _ _ Z5]; rfl
        have zf5_2 : wr.frozen? ⟨r5, 2, none⟩ = false := frozen_of_row _ _ _ _ _ Z5
        have hr45 : ¬ r4 = r5 := by omega
        have hr54 : ¬ r5 = r4 := by omega
        have hr4ja : ¬ r4 = ja := by omega
        have hr5ja : ¬ r5 = ja := by omega
        have hr4jd : ¬ r4 = jd := by omega
        have hr5jd : ¬ r5 = jd := by omega
        have HO1 := Lib.hid hO1
        have HO2 := Lib.hid hO2
        have HA1 := Lib.hid hacA
        have HA2 := Lib.hid hacB
        have HBW := Lib.hid hB
        have hr4W : W.heap.size ≤ r4 ∧ W.heap.size ≤ r5 ∧ r4 < lo ∧ r5 < lo ∧ W.heap.size ≤ lo := by have h0 := hjb.out; omega
        have HR4 := Lib.hid hr4W
        clear hO1 hO2 hacA hacB hB hr4W qa qd Z4 Z5 hdis hF d0_ d1_ hs HS hib hat
        go_wp2
        go_region
        all_goals
          go_wp2
          refine bodyPost_ret (v := .tuple #[.agg #[.int .i64 w, .int .i64 at', .slice A1 (partA ⟨false, at'⟩ ps).length c1], .agg #[.int .i64 w, .int .i64 (h - at'), .slice A2 (partB ⟨false, at'⟩ ps).length c2], .bool true]) (by simp [results, Try.results86, go_sem, World.cell?_setCell_same', World.cell?_setCell_other, zr4_0, zr4_1, zr4_2, zr5_0, zr5_1, zr5_2, hr45, hr54]) rfl ?_
          obtain ⟨q1, q2, q3, q4, q5⟩ := HR4.out
          exact ⟨A1, _, c1, A2, _, c2, rfl, acc_own ((acc_low (acc_low (acc_low (acc_low (acc_low (acc_low HA1.out q3 _) q3 _) q3 _) q4 _) q4 _) q4 _)).drew patchC_len q5, acc_own ((acc_low (acc_low (acc_low (acc_low (acc_low (acc_low HA2.out q3 _) q3 _) q3 _) q4 _) q4 _) q4 _)).drew patchC_len q5, (below_set (below_set (below_set (below_set (below_set (below_set HBW.out q1 _) q1 _) q1 _) q2 _) q2 _) q2 _).drew⟩
  · have hat : 1 ≤ at' ∧ at' ≤ w - 1 := hib
    obtain ⟨wg, hwg⟩ : ∃ v, Hid (((wf.setCell ⟨ja, 0, none⟩ (.int .i64 at')).setCell ⟨ja, 1, none⟩ (.int .i64 h)).setCell ⟨ja, 2, none⟩ (.slice none 0 0) = v) := ⟨_, rfl⟩
    obtain ⟨w0, hw0⟩ : ∃ v, Hid (((wg.setCell ⟨jd, 0, none⟩ (.int .i64 (w - at'))).setCell ⟨jd, 1, none⟩ (.int .i64 h)).setCell ⟨jd, 2, none⟩ (.slice none 0 0) = v) := ⟨_, rfl⟩
    have hs := HS.out
    have qja0 : w0.heap[ja]? = some (.cells #[.int .i64 at', .int .i64 h, .slice none 0 0] 30 (0, 0)) := by
      rw [← hw0.out, row_far _ (by omega), row_far _ (by omega), row_far _ (by omega), ← hwg.out]
      exact row_set _ (row_set _ (row_set _ qja))
    have qjd0 : w0.heap[jd]? = some (.cells #[.int .i64 (w - at'), .int .i64 h, .slice none 0 0] 30 (0, 0)) := by
      have : wg.heap[jd]? = some (.cells #[.int .i64 w, .int .i64 (h - at'), .slice none 0 0] 30 (0, 0)) := by rw [← hwg.out, row_far _ (by omega), row_far _ (by omega), row_far _ (by omega)]; exact qjd
      rw [← hw0.out]
      exact row_set _ (row_set _ (row_set _ this))
    have hfar : ∀ g, g ≠ ja → g ≠ jd → w0.heap[g]? = wf.heap[g]? := fun g g1 g2 => by rw [← hw0.out, row_far _ g2, row_far _ g2, row_far _ g2, ← hwg.out, row_far _ g1, row_far _ g1, row_far _ g1]
    have hB0 : Below W.heap.size W w0 := by
      have h9 : Below W.heap.size W wg := by rw [← hwg.out]; exact below_set (below_set (below_set hBf (by omega) _) (by omega) _) (by omega) _
      rw [← hw0.out]; exact below_set (below_set (below_set h9 (by omega) _) (by omega) _) (by omega) _
    have hs0 : w0.heap.size = lo := by rw [← hw0.out, set_size, set_size, set_size, ← hwg.out, set_size, set_size, set_size]; exact hlo.out
    have xja0 : wf.cell? ⟨ja, 0, none⟩ = some (.int .i64 w) := by rw [cell_of_row _ _ _ _ _ _ qja]; rfl
    have xja1 : wf.cell? ⟨ja, 1, none⟩ = some (.int .i64 at') := by rw [cell_of_row _ _ _ _ _ _ qja]; rfl
    have xja2 : wf.cell? ⟨ja, 2, none⟩ = some (.slice none 0 0) := by rw [cell_of_row _ _ _ _ _ _ qja]; rfl
    have fja0 : wf.frozen? ⟨ja, 0, none⟩ = false := frozen_of_row _ _ _ _ _ qja
    have fja1 : wf.frozen? ⟨ja, 1, none⟩ = false := frozen_of_row _ _ _ _ _ qja
    have fja2 : wf.frozen? ⟨ja, 2, none⟩ = false := frozen_of_row _ _ _ _ _ qja
    have xjd0 : wf.cell? ⟨jd, 0, none⟩ = some (.int .i64 w) := by rw [cell_of_row _ _ _ _ _ _ qjd]; rfl
    have xjd1 : wf.cell? ⟨jd, 1, none⟩ = some (.int .i64 (h - at')) := by rw [cell_of_row _ _ _ _ _ _ qjd]; rfl
    have xjd2 : wf.cell? ⟨jd, 2, none⟩ = some (.slice none 0 0) := by rw [cell_of_row _ _ _ _ _ _ qjd]; rfl
    have fjd0 : wf.frozen? ⟨jd, 0, none⟩ = false := frozen_of_row _ _ _ _ _ qjd
    have fjd1 : wf.frozen? ⟨jd, 1, none⟩ = false := frozen_of_row _ _ _ _ _ qjd
    have fjd2 : wf.frozen? ⟨jd, 2, none⟩ = false := frozen_of_row _ _ _ _ _ qjd
    have qjdg : wg.heap[jd]? = some (.cells #[.int .i64 w, .int .i64 (h - at'), .slice none 0 0] 30 (0, 0)) := by rw [← hwg.out, row_far _ (by omega), row_far _ (by omega), row_far _ (by omega)]; exact qjd
    have y0 : wg.cell? ⟨jd, 0, none⟩ = some (.int .i64 w) := by rw [cell_of_row _ _ _ _ _ _ qjdg]; rfl
    have y1 : wg.cell? ⟨jd, 1, none⟩ = some (.int .i64 (h - at')) := by rw [cell_of_row _ _ _ _ _ _ qjdg]; rfl
    have y2 : wg.cell? ⟨jd, 2, none⟩ = some (.slice none 0 0) := by rw [cell_of_row _ _ _ _ _ _ qjdg]; rfl
    have fy0 : wg.frozen? ⟨jd, 0, none⟩ = false := frozen_of_row _ _ _ _ _ qjdg
    have fy1 : wg.frozen? ⟨jd, 1, none⟩ = false := frozen_of_row _ _ _ _ _ qjdg
    have fy2 : wg.frozen? ⟨jd, 2, none⟩ = false := frozen_of_row _ _ _ _ _ qjdg
    have gfar : ∀ g, g ≠ ja → wg.heap[g]? = wf.heap[g]? := fun g g1 => by rw [← hwg.out, row_far _ g1, row_far _ g1, row_far _ g1]
    have n0 := cell_blk l0 (gfar jb (by omega))
    have n1 := cell_blk l1 (gfar jb (by omega))
    have n2 := cell_blk l2 (gfar jb (by omega))
    have t0 := cell_blk o0 (gfar jc (by omega))
    have t1 := cell_blk o1 (gfar jc (by omega))
    have hgs : IntKind.i64.wrap (w - at') = w - at' := by simp (disch := omega) only [IntWalk.i64_in]
    have v2 := cell_blk l2 (hfar jb (by omega) (by omega))
    have z0 := cell_blk o0 (hfar jc (by omega) (by omega))
    have z1 := cell_blk o1 (hfar jc (by omega) (by omega))
    have HS0 := Lib.hid hs0
    clear hs hs0
    go_wp2_with (first | (rw [hwe.out]; (try rw [hja.out])) | (rw [hwf.out]; (try rw [hjd.out])) | rw [hwg.out] | rw [hw0.out])
    have hs := HS.out
    have hs0 := HS0.out
    clear hgs qjdg xja0 xja1 xja2 xjd0 xjd1 xjd2 fja0 fja1 fja2 fjd0 fjd1 fjd2 y0 y1 y2 fy0 fy1 fy2 n0 n1 n2 t0 t1 gfar
    have Qjb := (hfar jb (by omega) (by omega)).trans qjb
    have Qjc := (hfar jc (by omega) (by omega)).trans qjc
    have Qr4 := (hfar r4 (by omega) (by omega)).trans qr4
    have Qr5 := (hfar r5 (by omega) (by omega)).trans qr5
    have hR0 := hRf
    clear e0 e1 e2 c0 c1 m0 m1 m2 k0 k1 l0 l1 l2 o0 o1 hRf hR0 qja qjd qjb qjc qr4 qr5 hBf hfar
    have HL0 := Lib.hid (Nat.le_of_eq hs0.symm)
    clear hs hs0
    go_loopw [9] (fun i wr => ∃ (k : Nat) (va vd : Value), k ≤ n ∧ i = .int .i64 (k : Int) ∧ wr.heap[ja]? = some (.cells #[.int .i64 at', .int .i64 h, va] 30 (0, 0)) ∧ wr.heap[jd]? = some (.cells #[.int .i64 (w - at'), .int .i64 h, vd] 30 (0, 0)) ∧ Acc wr lo 44 5 va (partA ⟨true, at'⟩ (ps.take k)) patchC ∧ Acc wr lo 44 5 vd (partB ⟨true, at'⟩ (ps.take k)) patchC ∧ Dis va vd ∧ Hid (∀ g, g < lo → g ≠ ja → g ≠ jd → wr.heap[g]? = w0.heap[g]?) ∧ Below W.heap.size W wr ∧ lo ≤ wr.heap.size) (fun i _ => n - (intOf i).toNat)
    case atStart => exact ⟨0, .slice none 0 0, .slice none 0 0, Nat.zero_le _, rfl, qja0, qjd0, by simpa [partA] using Acc.nil _ _ _ _ _, by simpa [partB] using Acc.nil _ _ _ _ _, fun g hg => by simp [Value.ownBlock] at hg, fun g _ _ _ => rfl, hB0, HL0.out⟩
    case round =>
      clear qja0 qjd0 hB0
      obtain ⟨k, va, vd, hk, rfl, qa, qd, hacA, hacB, hdis, hF, hB, hlz⟩ := hrel
      have hz := hB.size
      have hs := HS.out
      have ca2 : wr.cell? ⟨ja, 2, none⟩ = some va := by rw [cell_of_row _ _ _ _ _ _ qa]; rfl
      have cd2 : wr.cell? ⟨jd, 2, none⟩ = some vd := by rw [cell_of_row _ _ _ _ _ _ qd]; rfl
      have d2 := cell_blk v2 (hF.out jb (by omega) (by omega) (by omega))
      have d0_ := cell_blk z0 (hF.out jc (by omega) (by omega) (by omega))
      have d1_ := cell_blk z1 (hF.out jc (by omega) (by omega) (by omega))
      by_cases hlt : k < n
      · obtain ⟨b, off, x, rfl, hbW, hx, p0, p1, p2, p3, p4⟩ := hR.patch hlt hB
        have HX := Lib.hid hx
        have hbd := patch_bd (all_at' HALL.out hx) hw12 hh12
        clear hx
        obtain ⟨x0, x1, x2, x3, x4⟩ := x
        simp only at p0 p1 p2 p3 p4 hbd
        have hkI : (k : Int) < (n : Int) := by omega
        have hla := pA_len ⟨true, at'⟩ (ps.take k)
        have hlb := pB_len ⟨true, at'⟩ (ps.take k)
        have hlk : (ps.take k).length ≤ k := List.length_take_le _ _
        have hWlo : W.heap.size ≤ lo := by have := hjb.out; omega
        obtain ⟨wp, hwp⟩ : ∃ v, Hid (wr.alloc (.cells #[.int .i64 x0, .int .i64 x1, .int .i64 x2, .int .i64 x3, .int .i64 x4] 44) = v) := ⟨_, rfl⟩
        obtain ⟨jp, hjp⟩ : ∃ j, Hid (wr.heap.size = j) := ⟨_, rfl⟩
        have rp : wp.heap[jp]? = some (.cells #[.int .i64 x0, .int .i64 x1, .int .i64 x2, .int .i64 x3, .int .i64 x4] 44 (0, 0)) := by rw [← hwp.out, ← hjp.out]; exact heap_alloc_new wr _
        have g0 : wp.cell? ⟨jp, 0, none⟩ = some (.int .i64 x0) := by rw [cell_of_row _ _ _ _ _ _ rp]; rfl
        have g1 : wp.cell? ⟨jp, 1, none⟩ = some (.int .i64 x1) := by rw [cell_of_row _ _ _ _ _ _ rp]; rfl
        have g2 : wp.cell? ⟨jp, 2, none⟩ = some (.int .i64 x2) := by rw [cell_of_row _ _ _ _ _ _ rp]; rfl
        have g3 : wp.cell? ⟨jp, 3, none⟩ = some (.int .i64 x3) := by rw [cell_of_row _ _ _ _ _ _ rp]; rfl
        have g4 : wp.cell? ⟨jp, 4, none⟩ = some (.int .i64 x4) := by rw [cell_of_row _ _ _ _ _ _ rp]; rfl
        have bp : Below wr.heap.size wr wp := by rw [← hwp.out]; exact (Below.refl _ _).alloc (Nat.le_refl _) _
        have sp : wp.heap.size = jp + 1 := by rw [← hwp.out, ← hjp.out]; simp
        have hjpe : wr.heap.size = jp := hjp.out
        have hBp := hB.trans (bp.mono hz)
        have u2 := keepcell d2 bp
        have u0_ := keepcell d0_ bp
        have u1_ := keepcell d1_ bp
        have ua2 := keepcell ca2 bp
        have ud2 := keepcell cd2 bp
        have qap := (bp.block ja (by omega)).trans qa
        have qdp := (bp.block jd (by omega)).trans qd
        by_cases y9 : at' ≤ x0
        · have HBF : Hid (before ⟨true, at'⟩ ⟨x0, x1, x2, x3, x4⟩ = false) := (decide_eq_false (show ¬ x0 < at' by omega) : decide (x0 < at') = false)
          obtain ⟨wq, hwq⟩ : ∃ v, Hid (wp.setCell ⟨jp, 0, none⟩ (.int .i64 (x0 - at')) = v) := ⟨_, rfl⟩
          have hqb : ∀ g, g < jp → wq.heap[g]? = wr.heap[g]? := fun g hg => by rw [← hwq.out, row_far _ (by omega)]; exact bp.block g (by omega)
          have hBq : Below W.heap.size W wq := by rw [← hwq.out]; exact below_set hBp (by omega) _
          have sq : wq.heap.size = jp + 1 := by rw [← hwq.out, set_size]; exact sp
          have haq : Acc wq lo 44 5 va (partA ⟨true, at'⟩ (ps.take k)) patchC := by rw [← hwq.out]; exact acc_new hacA (hacA.below bp) (Nat.le_of_eq hjpe) _
          have hbq : Acc wq lo 44 5 vd (partB ⟨true, at'⟩ (ps.take k)) patchC := by rw [← hwq.out]; exact acc_new hacB (hacB.below bp) (Nat.le_of_eq hjpe) _
          have fg : wp.frozen? ⟨jp, 0, none⟩ = false := frozen_of_row _ _ _ _ _ rp
          have rq := row_set (o := 0) (.int .i64 (x0 - at')) rp
          rw [hwq.out] at rq
          have y0 : wq.cell? ⟨jp, 0, none⟩ = some (.int .i64 (x0 - at')) := by rw [cell_of_row _ _ _ _ _ _ rq]; rfl
          have y1 : wq.cell? ⟨jp, 1, none⟩ = some (.int .i64 x1) := by rw [cell_of_row _ _ _ _ _ _ rq]; rfl
          have y2 : wq.cell? ⟨jp, 2, none⟩ = some (.int .i64 x2) := by rw [cell_of_row _ _ _ _ _ _ rq]; rfl
          have y3 : wq.cell? ⟨jp, 3, none⟩ = some (.int .i64 x3) := by rw [cell_of_row _ _ _ _ _ _ rq]; rfl
          have y4 : wq.cell? ⟨jp, 4, none⟩ = some (.int .i64 x4) := by rw [cell_of_row _ _ _ _ _ _ rq]; rfl
          have hsub : IntKind.i64.wrap (x0 - at') = x0 - at' := by simp (disch := omega) only [IntWalk.i64_in]
          have qaq := (hqb ja (by omega)).trans qa
          have qdq := (hqb jd (by omega)).trans qd
          have xa2 : wq.cell? ⟨jd, 2, none⟩ = some vd := by rw [cell_of_row _ _ _ _ _ _ qdq]; rfl
          have w0_ := cell_blk d0_ (hqb jc (by omega))
          have w1_ := cell_blk d1_ (hqb jc (by omega))
          have hjq : jd < lo := by omega
          have hloq : lo ≤ wq.heap.size := by omega
          have hln : (partB ⟨true, at'⟩ (ps.take k)).length + 1 ≤ 4294967296 := by omega
          clear qap qdp rp bp rq
          have HSQ := Lib.hid sq
          clear hs hjpe sp sq
          go_wp2_with (first | (rw [hwp.out]; (try rw [hjp.out])) | rw [hwq.out] | (at_builtin; refine wpList_acc1 rfl _ _ 28 rfl lo 44 (.agg #[.int .i64 0, .int .i64 0, .int .i64 0, .int .i64 0, .int .i64 0]) 5 40 Try.underlying28 infoPatch rfl (by omega) _ _ patchC ⟨(x0 - at'), x1, x2, x3, x4⟩ rfl hbq _ _ rfl _ rfl (by simp) rfl (by simp [patchC, Value.oneCell']) hln (by omega) hloq ?_; intro v7 w7 hacc7 hgrow7 hat7; have hch7 : ∀ g, g < lo → w7.heap[g]? = wq.heap[g]? := fun g hg => hgrow7.block g (by omega) (fun e => by have := (hbq.row e.symm).1; omega); have f7 : w7.frozen? ⟨jd, 2, none⟩ = false := frozen_of_row _ _ _ _ _ ((hch7 jd hjq).trans qdq); have c7 := cell_blk xa2 (hch7 jd hjq); obtain ⟨A7, c7', e8, _, _⟩ := hacc7.own patchC_len; obtain ⟨L7, e7⟩ : ∃ L : Nat, v7 = .slice A7 L c7' := ⟨_, e8⟩; have E7 := Lib.hid e7; rw [e7]; clear e7 e8))
          go_roundw
          case rel =>
            rw [← E7.out]
            have hs := HS.out
            have hjpe := hjp.out
            have sq := HSQ.out
            have hoth := haq.kept hgrow7 (fun g hg => hdis g hg)
            have hrow : ∀ g, va.ownBlock = some g → g < wq.heap.size + 1 := fun g hg => by have := (haq.row hg).2; omega
            have hd7 := hdis.right hat7 hrow
            have hkeep : ∀ g, g < lo → g ≠ ja → g ≠ jd → (w7.setCell ⟨jd, 2, none⟩ v7).heap[g]? = w0.heap[g]? := fun g h1 h2 h3 => by rw [row_far _ (by omega)]; exact (hch7 g h1).trans ((hqb g (by omega)).trans (hF.out g h1 h2 h3))
            have qa8 := (row_far (w := w7) (b := jd) (o := 2) v7 (show ja ≠ jd by omega)).trans ((hch7 ja (by omega)).trans qaq)
            have qd8 := row_set v7 (o := 2) ((hch7 jd (by omega)).trans qdq)
            have hB7 := hbq.grow_below hBq hgrow7 hWlo hBq.size
            exact ⟨k + 1, va, v7, by omega, by go_num, qa8, qd8, by rw [← pA_no HX.out HBF.out]; exact acc_low hoth (by omega) _, by rw [← pB_yes HX.out HBF.out]; exact acc_low hacc7 (by omega) _, hd7, hkeep, below_set hB7 (by omega) _, by rw [set_size]; exact Nat.le_trans hloq hgrow7.size⟩
          case measure => simp [intOf]; omega
        · have HBF : Hid (before ⟨true, at'⟩ ⟨x0, x1, x2, x3, x4⟩ = true) := (decide_eq_true (show x0 < at' by omega) : decide (x0 < at') = true)
          have y8 : x0 < at' := by omega
          obtain ⟨wq, hwq⟩ : ∃ v, Hid (wp = v) := ⟨_, rfl⟩
          have hqb : ∀ g, g < jp → wq.heap[g]? = wr.heap[g]? := fun g hg => by rw [← hwq.out]; exact bp.block g (by omega)
          have hBq : Below W.heap.size W wq := by rw [← hwq.out]; exact hBp
          have sq : wq.heap.size = jp + 1 := by rw [← hwq.out]; exact sp
          have haq : Acc wq lo 44 5 va (partA ⟨true, at'⟩ (ps.take k)) patchC := by rw [← hwq.out]; exact hacA.below bp
          have hbq : Acc wq lo 44 5 vd (partB ⟨true, at'⟩ (ps.take k)) patchC := by rw [← hwq.out]; exact hacB.below bp
          have y0 : wq.cell? ⟨jp, 0, none⟩ = some (.int .i64 x0) := by rw [← hwq.out]; exact g0
          have y1 : wq.cell? ⟨jp, 1, none⟩ = some (.int .i64 x1) := by rw [← hwq.out]; exact g1
          have y2 : wq.cell? ⟨jp, 2, none⟩ = some (.int .i64 x2) := by rw [← hwq.out]; exact g2
          have y3 : wq.cell? ⟨jp, 3, none⟩ = some (.int .i64 x3) := by rw [← hwq.out]; exact g3
          have y4 : wq.cell? ⟨jp, 4, none⟩ = some (.int .i64 x4) := by rw [← hwq.out]; exact g4
          have qaq := (hqb ja (by omega)).trans qa
          have qdq := (hqb jd (by omega)).trans qd
          have xa2 : wq.cell? ⟨ja, 2, none⟩ = some va := by rw [cell_of_row _ _ _ _ _ _ qaq]; rfl
          have w0_ := cell_blk d0_ (hqb jc (by omega))
          have w1_ := cell_blk d1_ (hqb jc (by omega))
          have hjq : ja < lo := by omega
          have hloq : lo ≤ wq.heap.size := by omega
          have hln : (partA ⟨true, at'⟩ (ps.take k)).length + 1 ≤ 4294967296 := by omega
          clear qap qdp rp bp
          rw [hwq.out] at g0 g1 g2 g3 g4 u2 u0_ u1_ ua2 ud2 hwp
          have HSQ := Lib.hid sq
          clear hs hjpe sp sq
          go_wp2_with (first | (rw [hwp.out]; (try rw [hjp.out])) | (at_builtin; refine wpList_acc1 rfl _ _ 28 rfl lo 44 (.agg #[.int .i64 0, .int .i64 0, .int .i64 0, .int .i64 0, .int .i64 0]) 5 40 Try.underlying28 infoPatch rfl (by omega) _ _ patchC ⟨x0, x1, x2, x3, x4⟩ rfl haq _ _ rfl _ rfl (by simp) rfl (by simp [patchC, Value.oneCell']) hln (by omega) hloq ?_; intro v7 w7 hacc7 hgrow7 hat7; have hch7 : ∀ g, g < lo → w7.heap[g]? = wq.heap[g]? := fun g hg => hgrow7.block g (by omega) (fun e => by have := (haq.row e.symm).1; omega); have f7 : w7.frozen? ⟨ja, 2, none⟩ = false := frozen_of_row _ _ _ _ _ ((hch7 ja hjq).trans qaq); have c7 := cell_blk xa2 (hch7 ja hjq); obtain ⟨A7, c7', e8, _, _⟩ := hacc7.own patchC_len; obtain ⟨L7, e7⟩ : ∃ L : Nat, v7 = .slice A7 L c7' := ⟨_, e8⟩; have E7 := Lib.hid e7; rw [e7]; clear e7 e8))
          go_roundw
          case rel =>
            rw [← E7.out]
            have hs := HS.out
            have hjpe := hjp.out
            have sq := HSQ.out
            have hoth := hbq.kept hgrow7 (fun g hg => hdis.symm g hg)
            have hrow : ∀ g, vd.ownBlock = some g → g < wq.heap.size + 1 := fun g hg => by have := (hbq.row hg).2; omega
            have hd7 := hdis.left hat7 hrow
            have hkeep : ∀ g, g < lo → g ≠ ja → g ≠ jd → (w7.setCell ⟨ja, 2, none⟩ v7).heap[g]? = w0.heap[g]? := fun g h1 h2 h3 => by rw [row_far _ (by omega)]; exact (hch7 g h1).trans ((hqb g (by omega)).trans (hF.out g h1 h2 h3))
            have qa8 := row_set v7 (o := 2) ((hch7 ja (by omega)).trans qaq)
            have qd8 := (row_far (w := w7) (b := ja) (o := 2) v7 (show jd ≠ ja by omega)).trans ((hch7 jd (by omega)).trans qdq)
            have hB7 := haq.grow_below hBq hgrow7 hWlo hBq.size
            exact ⟨k + 1, v7, vd, by omega, by go_num, qa8, qd8, by rw [← pA_yes HX.out HBF.out]; exact acc_low hacc7 (by omega) _, by rw [← pB_no HX.out HBF.out]; exact acc_low hoth (by omega) _, hd7, hkeep, below_set hB7 (by omega) _, by rw [set_size]; exact Nat.le_trans hloq hgrow7.size⟩
          case measure => simp [intOf]; omega
      · obtain rfl : k = n := by omega
        rw [List.take_of_length_le (Nat.le_of_eq HLEN.out)] at hacA hacB
        obtain ⟨A1, c1, rfl, _, hO1⟩ := hacA.own patchC_len
        obtain ⟨A2, c2, rfl, _, hO2⟩ := hacB.own patchC_len
        have Z4 := (hF.out r4 (by omega) (by omega) (by omega)).trans Qr4
        have Z5 := (hF.out r5 (by omega) (by omega) (by omega)).trans Qr5
        have ca0 : wr.cell? ⟨ja, 0, none⟩ = some (.int .i64 at') := by rw [cell_of_row _ _ _ _ _ _ qa]; rfl
        have ca1 : wr.cell? ⟨ja, 1, none⟩ = some (.int .i64 h) := by rw [cell_of_row _ _ _ _ _ _ qa]; rfl
        have cd0 : wr.cell? ⟨jd, 0, none⟩ = some (.int .i64 (w - at')) := by rw [cell_of_row _ _ _ _ _ _ qd]; rfl
        have cd1 : wr.cell? ⟨jd, 1, none⟩ = some (.int .i64 h) := by rw [cell_of_row _ _ _ _ _ _ qd]; rfl
        have zr4_0 : wr.cell? ⟨r4, 0, none⟩ = some (.int .i64 0) := by rw [cell_of_row _ _ _ _ _ _ Z4]; rfl
        have zf4_0 : wr.frozen? ⟨r4, 0, none⟩ = false := frozen_of_row _ _ _ _ _ Z4
        have zr4_1 : wr.cell? ⟨r4, 1, none⟩ = some (.int .i64 0) := by rw [cell_of_row _ _ _ _ _ _ Z4]; rfl
        have zf4_1 : wr.frozen? ⟨r4, 1, none⟩ = false := frozen_of_row _ _ _ _ _ Z4
        have zr4_2 : wr.cell? ⟨r4, 2, none⟩ = some (.slice none 0 0) := by rw [cell_of_row _ _ _ _ _ _ Z4]; rfl
        have zf4_2 : wr.frozen? ⟨r4, 2, none⟩ = false := frozen_of_row _ _ _ _ _ Z4
        have zr5_0 : wr.cell? ⟨r5, 0, none⟩ = some (.int .i64 0) := by rw [cell_of_row _ _ _ _ _ _ Z5]; rfl
        have zf5_0 : wr.frozen? ⟨r5, 0, none⟩ = false := frozen_of_row _ _ _ _ _ Z5
        have zr5_1 : wr.cell? ⟨r5, 1, none⟩ = some (.int .i64 0) := by rw [cell_of_row _ _ _ _ _ _ Z5]; rfl
        have zf5_1 : wr.frozen? ⟨r5, 1, none⟩ = false := frozen_of_row _ _ _ _ _ Z5
        have zr5_2 : wr.cell? ⟨r5, 2, none⟩ = some (.slice none 0 0) := by rw [cell_of_row _ _ _ _ _ _ Z5]; rfl
        have zf5_2 : wr.frozen? ⟨r5, 2, none⟩ = false := frozen_of_row _ _ _ _ _ Z5
        have hr45 : ¬ r4 = r5 := by omega
        have hr54 : ¬ r5 = r4 := by omega
        have hr4ja : ¬ r4 = ja := by omega
        have hr5ja : ¬ r5 = ja := by omega
        have hr4jd : ¬ r4 = jd := by omega
        have hr5jd : ¬ r5 = jd := by omega
        have HO1 := Lib.hid hO1
        have HO2 := Lib.hid hO2
        have HA1 := Lib.hid hacA
        have HA2 := Lib.hid hacB
        have HBW := Lib.hid hB
        have hr4W : W.heap.size ≤ r4 ∧ W.heap.size ≤ r5 ∧ r4 < lo ∧ r5 < lo ∧ W.heap.size ≤ lo := by have h0 := hjb.out; omega
        have HR4 := Lib.hid hr4W
        clear hO1 hO2 hacA hacB hB hr4W qa qd Z4 Z5 hdis hF d0_ d1_ hs HS hib hat
        go_wp2
        go_region
        all_goals
          go_wp2
          refine bodyPost_ret (v := .tuple #[.agg #[.int .i64 at', .int .i64 h, .slice A1 (partA ⟨true, at'⟩ ps).length c1], .agg #[.int .i64 (w - at'), .int .i64 h, .slice A2 (partB ⟨true, at'⟩ ps).length c2], .bool true]) (by simp [results, Try.results86, go_sem, World.cell?_setCell_same', World.cell?_setCell_other, zr4_0, zr4_1, zr4_2, zr5_0, zr5_1, zr5_2, hr45, hr54]) rfl ?_
          obtain ⟨q1, q2, q3, q4, q5⟩ := HR4.out
          exact ⟨A1, _, c1, A2, _, c2, rfl, acc_own ((acc_low (acc_low (acc_low (acc_low (acc_low (acc_low HA1.out q3 _) q3 _) q3 _) q4 _) q4 _) q4 _)).drew patchC_len q5, acc_own ((acc_low (acc_low (acc_low (acc_low (acc_low (acc_low HA2.out q3 _) q3 _) q3 _) q4 _) q4 _) q4 _)).drew patchC_len q5, (below_set (below_set (below_set (below_set (below_set (below_set HBW.out q1 _) q1 _) q1 _) q2 _) q2 _) q2 _).drew⟩

end Go.Proofs.Ytmjdgplkcocgmaa
