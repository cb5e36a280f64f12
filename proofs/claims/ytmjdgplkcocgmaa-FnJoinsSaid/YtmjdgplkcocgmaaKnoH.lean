/-
  Contracts over cuts: both parts of a cut, and the patches of each, by the program.
-/
import Derived.Test.YtmjdgplkcocgmaaKnoF
import Derived.Test.YtmjdgplkcocgmaaZPlain
import Derived.Test.YtmjdgplkcocgmaaZWords
import Derived.Deep.RegionLaw
set_option linter.unusedVariables false
set_option linter.unusedSimpArgs false
namespace Go.Proofs.Ytmjdgplkcocgmaa
open Go.RowKit

/-- four slices in four blocks -/
def Dis4 (va vd na nd : Value) : Prop := Dis va vd ∧ Dis va na ∧ Dis va nd ∧ Dis vd na ∧ Dis vd nd ∧ Dis na nd

set_option maxRecDepth 100000 in
set_option maxHeartbeats 4000000 in
theorem divI_dis (w h : Int) (A : Option Addr) (n c : Nat) (ps : List Patch) (up : Bool) (at' : Int) (W : World) (hR : Rd W A n 5 ps patchC) (hN : n ≤ 1048576) (hK : isCut w h ps ⟨up, at'⟩ = true) :
    Calls Try.prog 87 #[.agg #[.int .i64 w, .int .i64 h, .slice A n c], .agg #[.bool up, .int .i64 at']] W fun e w' => ∃ A1 n1 c1 A2 n2 c2 N1 m1 d1 N2 m2 d2, e = .returned (.tuple #[.agg #[.int .i64 (wA w ⟨up, at'⟩), .int .i64 (hA h ⟨up, at'⟩), .slice A1 n1 c1, .int .i64 (wB w ⟨up, at'⟩), .int .i64 (hB h ⟨up, at'⟩), .slice A2 n2 c2], .agg #[.slice N1 m1 d1, .slice N2 m2 d2]]) ∧ Own w' W.heap.size w'.heap.size A1 n1 5 (partA ⟨up, at'⟩ ps) patchC ∧ Own w' W.heap.size w'.heap.size A2 n2 5 (partB ⟨up, at'⟩ ps) patchC ∧ Own w' W.heap.size w'.heap.size N1 m1 1 (numsUp ⟨up, at'⟩ ps true n) intC ∧ Own w' W.heap.size w'.heap.size N2 m2 1 (numsUp ⟨up, at'⟩ ps false n) intC ∧ (m1 ≤ d1 ∧ m2 ≤ d2) ∧ Below W.heap.size W w' ∧ Dis4 (.slice A1 n1 c1) (.slice A2 n2 c2) (.slice N1 m1 d1) (.slice N2 m2 d2) := by
  have HLEN := Lib.hid hR.len
  obtain ⟨hlok, hib, _⟩ := cut_parts hK
  obtain ⟨hw, hh, hn12, hall, _, _⟩ := layout_parts hlok
  rw [HLEN.out] at hn12
  have HALL := Lib.hid hall
  have hw12 := hw.2
  have hh12 := hh.2
  have hw1 := hw.1
  have hh1 := hh.1
  clear hlok hall hw hh hK
  cases up
  · have hat : 1 ≤ at' ∧ at' ≤ h - 1 := hib
    clear hib
    obtain ⟨jb, hjb⟩ : ∃ j, Hid (W.heap.size = j) := ⟨_, rfl⟩
    obtain ⟨wa, hwa⟩ : ∃ v, Hid (W.alloc (.cells #[.int .i64 w, .int .i64 h, .slice A n c] 30) = v) := ⟨_, rfl⟩
    have rjb : wa.heap[jb]? = some (.cells #[.int .i64 w, .int .i64 h, .slice A n c] 30 (0, 0)) := by rw [← hwa.out, ← hjb.out]; exact heap_alloc_new W _
    have bwa : Below W.heap.size W wa := by rw [← hwa.out]; exact (Below.refl _ _).alloc (Nat.le_refl _) _
    have swa : wa.heap.size = jb + 1 := by rw [← hwa.out, ← hjb.out]; simp
    obtain ⟨jc, hjc⟩ : ∃ j, Hid (wa.heap.size = j) := ⟨_, rfl⟩
    obtain ⟨wb, hwb⟩ : ∃ v, Hid (wa.alloc (.cells #[.bool false, .int .i64 at'] 72) = v) := ⟨_, rfl⟩
    have rjc : wb.heap[jc]? = some (.cells #[.bool false, .int .i64 at'] 72 (0, 0)) := by rw [← hwb.out, ← hjc.out]; exact heap_alloc_new wa _
    have bwb : Below wa.heap.size wa wb := by rw [← hwb.out]; exact (Below.refl _ _).alloc (Nat.le_refl _) _
    have swb : wb.heap.size = jc + 1 := by rw [← hwb.out, ← hjc.out]; simp
    obtain ⟨r4, hr4⟩ : ∃ j, Hid (wb.heap.size = j) := ⟨_, rfl⟩
    obtain ⟨wc, hwc⟩ : ∃ v, Hid (wb.alloc (.cells #[.int .i64 0, .int .i64 0, .slice none 0 0, .int .i64 0, .int .i64 0, .slice none 0 0] 98) = v) := ⟨_, rfl⟩
    have rr4 : wc.heap[r4]? = some (.cells #[.int .i64 0, .int .i64 0, .slice none 0 0, .int .i64 0, .int .i64 0, .slice none 0 0] 98 (0, 0)) := by rw [← hwc.out, ← hr4.out]; exact heap_alloc_new wb _
    have bwc : Below wb.heap.size wb wc := by rw [← hwc.out]; exact (Below.refl _ _).alloc (Nat.le_refl _) _
    have swc : wc.heap.size = r4 + 1 := by rw [← hwc.out, ← hr4.out]; simp
    obtain ⟨r5, hr5⟩ : ∃ j, Hid (wc.heap.size = j) := ⟨_, rfl⟩
    obtain ⟨wd, hwd⟩ : ∃ v, Hid (wc.alloc (.cells #[.slice none 0 0, .slice none 0 0] 99) = v) := ⟨_, rfl⟩
    have rr5 : wd.heap[r5]? = some (.cells #[.slice none 0 0, .slice none 0 0] 99 (0, 0)) := by rw [← hwd.out, ← hr5.out]; exact heap_alloc_new wc _
    have bwd : Below wc.heap.size wc wd := by rw [← hwd.out]; exact (Below.refl _ _).alloc (Nat.le_refl _) _
    have swd : wd.heap.size = r5 + 1 := by rw [← hwd.out, ← hr5.out]; simp
    obtain ⟨jt, hjt⟩ : ∃ j, Hid (wd.heap.size = j) := ⟨_, rfl⟩
    obtain ⟨we, hwe⟩ : ∃ v, Hid (wd.alloc (.cells #[.int .i64 w, .int .i64 at', .slice none 0 0, .int .i64 w, .int .i64 (h - at'), .slice none 0 0] 98) = v) := ⟨_, rfl⟩
    have rjt : we.heap[jt]? = some (.cells #[.int .i64 w, .int .i64 at', .slice none 0 0, .int .i64 w, .int .i64 (h - at'), .slice none 0 0] 98 (0, 0)) := by rw [← hwe.out, ← hjt.out]; exact heap_alloc_new wd _
    have bwe : Below wd.heap.size wd we := by rw [← hwe.out]; exact (Below.refl _ _).alloc (Nat.le_refl _) _
    have swe : we.heap.size = jt + 1 := by rw [← hwe.out, ← hjt.out]; simp
    obtain ⟨jn, hjn⟩ : ∃ j, Hid (we.heap.size = j) := ⟨_, rfl⟩
    obtain ⟨w0, hw0⟩ : ∃ v, Hid (we.alloc (.cells #[.slice none 0 0, .slice none 0 0] 99) = v) := ⟨_, rfl⟩
    have rjn : w0.heap[jn]? = some (.cells #[.slice none 0 0, .slice none 0 0] 99 (0, 0)) := by rw [← hw0.out, ← hjn.out]; exact heap_alloc_new we _
    have bw0 : Below we.heap.size we w0 := by rw [← hw0.out]; exact (Below.refl _ _).alloc (Nat.le_refl _) _
    have sw0 : w0.heap.size = jn + 1 := by rw [← hw0.out, ← hjn.out]; simp
    have k1 : jc = jb + 1 := by rw [← hjc.out, swa]
    have k2 : r4 = jb + 2 := by rw [← hr4.out, swb]; omega
    have k3 : r5 = jb + 3 := by rw [← hr5.out, swc]; omega
    have k4 : jt = jb + 4 := by rw [← hjt.out, swd]; omega
    have k5 : jn = jb + 5 := by rw [← hjn.out, swe]; omega
    have k6 : w0.heap.size = jb + 6 := by omega
    have k0 : W.heap.size = jb := hjb.out
    obtain ⟨lo, hlo⟩ : ∃ l, Hid (l = jb + 6) := ⟨_, rfl⟩
    have k7 := hlo.out
    have hB0 : Below W.heap.size W w0 := ((((bwa.trans (bwb.mono (by omega))).trans (bwc.mono (by omega))).trans (bwd.mono (by omega))).trans (bwe.mono (by omega))).trans (bw0.mono (by omega))
    have qjb : w0.heap[jb]? = some (.cells #[.int .i64 w, .int .i64 h, .slice A n c] 30 (0, 0)) := (bw0.block jb (by omega)).trans ((bwe.block jb (by omega)).trans ((bwd.block jb (by omega)).trans ((bwc.block jb (by omega)).trans ((bwb.block jb (by omega)).trans (rjb)))))
    have qjc : w0.heap[jc]? = some (.cells #[.bool false, .int .i64 at'] 72 (0, 0)) := (bw0.block jc (by omega)).trans ((bwe.block jc (by omega)).trans ((bwd.block jc (by omega)).trans ((bwc.block jc (by omega)).trans (rjc))))
    have qr4 : w0.heap[r4]? = some (.cells #[.int .i64 0, .int .i64 0, .slice none 0 0, .int .i64 0, .int .i64 0, .slice none 0 0] 98 (0, 0)) := (bw0.block r4 (by omega)).trans ((bwe.block r4 (by omega)).trans ((bwd.block r4 (by omega)).trans (rr4)))
    have qr5 : w0.heap[r5]? = some (.cells #[.slice none 0 0, .slice none 0 0] 99 (0, 0)) := (bw0.block r5 (by omega)).trans ((bwe.block r5 (by omega)).trans (rr5))
    have qjt : w0.heap[jt]? = some (.cells #[.int .i64 w, .int .i64 at', .slice none 0 0, .int .i64 w, .int .i64 (h - at'), .slice none 0 0] 98 (0, 0)) := (bw0.block jt (by omega)).trans (rjt)
    have qjn : w0.heap[jn]? = some (.cells #[.slice none 0 0, .slice none 0 0] 99 (0, 0)) := rjn
    have X1 : Hid (W.heap.size + 1 = jc) := by show _ = _; omega
    have X2 : Hid (W.heap.size + 1 + 1 = r4) := by show _ = _; omega
    have X3 : Hid (W.heap.size + 1 + 1 + 1 = r5) := by show _ = _; omega
    have X4 : Hid (W.heap.size + 1 + 1 + 1 + 1 = jt) := by show _ = _; omega
    have X5 : Hid (W.heap.size + 1 + 1 + 1 + 1 + 1 = jn) := by show _ = _; omega
    have HS := Lib.hid (And.intro k0 (And.intro k1 (And.intro k2 (And.intro k3 (And.intro k4 (And.intro k5 (And.intro k6 k7)))))))
    have v2 : w0.cell? ⟨jb, 2, none⟩ = some (.slice A n c) := by rw [cell_of_row _ _ _ _ _ _ qjb]; rfl
    have z0 : w0.cell? ⟨jc, 0, none⟩ = some (.bool false) := by rw [cell_of_row _ _ _ _ _ _ qjc]; rfl
    have z1 : w0.cell? ⟨jc, 1, none⟩ = some (.int .i64 at') := by rw [cell_of_row _ _ _ _ _ _ qjc]; rfl
    have HL0 : Hid (lo ≤ w0.heap.size) := by show lo ≤ w0.heap.size; omega
    clear rjb bwa swa rjc bwb swb rr4 bwc swc rr5 bwd swd rjt bwe swe rjn bw0 sw0 k0 k1 k2 k3 k4 k5 k6 k7
    have HB0 := Lib.hid hB0
    clear hB0
    have Hqjb := Lib.hid qjb
    have Hqjc := Lib.hid qjc
    have Hqr4 := Lib.hid qr4
    have Hqr5 := Lib.hid qr5
    have Hqjt := Lib.hid qjt
    have Hqjn := Lib.hid qjn
    have Hv2 := Lib.hid v2
    have Hz0 := Lib.hid z0
    have Hz1 := Lib.hid z1
    clear qjb qjc qr4 qr5 qjt qjn v2 z0 z1
    go_enter Try.func87, Try.ntmps87
    go_wp2_with fail
    rw [hwa.out, hwb.out, hwc.out, hwd.out, hwe.out, hw0.out, X5.out, X4.out, X3.out, X2.out, X1.out, hjb.out]
    have hB0 := HB0.out
    have qr4 := Hqr4.out
    have qr5 := Hqr5.out
    have qjt := Hqjt.out
    have qjn := Hqjn.out
    have v2 := Hv2.out
    have z0 := Hz0.out
    have z1 := Hz1.out
    go_loopw [47] (fun i wr => ∃ (k : Nat) (va vd na nd : Value), k ≤ n ∧ i = .int .i64 (k : Int) ∧ wr.heap[jt]? = some (.cells #[.int .i64 w, .int .i64 at', va, .int .i64 w, .int .i64 (h - at'), vd] 98 (0, 0)) ∧ wr.heap[jn]? = some (.cells #[na, nd] 99 (0, 0)) ∧ Acc wr lo 44 5 va (partA ⟨false, at'⟩ (ps.take k)) patchC ∧ Acc wr lo 44 5 vd (partB ⟨false, at'⟩ (ps.take k)) patchC ∧ Acc wr lo 3 1 na (numsUp ⟨false, at'⟩ ps true k) intC ∧ Acc wr lo 3 1 nd (numsUp ⟨false, at'⟩ ps false k) intC ∧ (Dis va vd ∧ Dis va na ∧ Dis va nd ∧ Dis vd na ∧ Dis vd nd ∧ Dis na nd) ∧ Hid (∀ g, g < lo → g ≠ jt → g ≠ jn → wr.heap[g]? = w0.heap[g]?) ∧ Below W.heap.size W wr ∧ lo ≤ wr.heap.size) (fun i _ => n - (intOf i).toNat)
    case atStart => exact ⟨0, .slice none 0 0, .slice none 0 0, .slice none 0 0, .slice none 0 0, Nat.zero_le _, rfl, qjt, qjn, by simpa [partA] using Acc.nil _ _ _ _ _, by simpa [partB] using Acc.nil _ _ _ _ _, by simpa [numsUp] using Acc.nil _ _ _ _ _, by simpa [numsUp] using Acc.nil _ _ _ _ _, ⟨(fun g hg => by simp [Value.ownBlock] at hg), (fun g hg => by simp [Value.ownBlock] at hg), (fun g hg => by simp [Value.ownBlock] at hg), (fun g hg => by simp [Value.ownBlock] at hg), (fun g hg => by simp [Value.ownBlock] at hg), (fun g hg => by simp [Value.ownBlock] at hg)⟩, fun g _ _ _ => rfl, hB0, HL0.out⟩
    case round =>
      clear qjt qjn hB0
      obtain ⟨k, va, vd, na, nd, hk, rfl, qt, qn, hacA, hacB, hanA, hanB, hdis, hF, hB, hlz⟩ := hrel
      have hz := hB.size
      have hs := HS.out
      have d2 := cell_blk v2 (hF.out jb (by omega) (by omega) (by omega))
      have e0_ := cell_blk z0 (hF.out jc (by omega) (by omega) (by omega))
      have e1_ := cell_blk z1 (hF.out jc (by omega) (by omega) (by omega))
      by_cases hlt : k < n
      · obtain ⟨b, off, x, rfl, hbW, hx, p0, p1, p2, p3, p4⟩ := hR.patch hlt hB
        have HX := Lib.hid hx
        have hbd := patch_bd (all_at' HALL.out hx) hw12 hh12
        clear hx
        obtain ⟨x0, x1, x2, x3, x4⟩ := x
        simp only at p0 p1 p2 p3 p4 hbd
        have hkI : (k : Int) < (n : Int) := by omega
        have hla := pA_len ⟨false, at'⟩ (ps.take k)
        have hlb := pB_len ⟨false, at'⟩ (ps.take k)
        have hlk : (ps.take k).length ≤ k := List.length_take_le _ _
        have hlc := nums_len ⟨false, at'⟩ ps true k
        have hld := nums_len ⟨false, at'⟩ ps false k
        have hWlo : W.heap.size ≤ lo := by omega
        obtain ⟨wp, hwp⟩ : ∃ v, Hid (wr.alloc (.cells #[.int .i64 x0, .int .i64 x1, .int .i64 x2, .int .i64 x3, .int .i64 x4] 44) = v) := ⟨_, rfl⟩
        obtain ⟨jp, hjp⟩ : ∃ j, Hid (wr.heap.size = j) := ⟨_, rfl⟩
        have rp : wp.heap[jp]? = some (.cells #[.int .i64 x0, .int .i64 x1, .int .i64 x2, .int .i64 x3, .int .i64 x4] 44 (0, 0)) := by rw [← hwp.out, ← hjp.out]; exact heap_alloc_new wr _
        have g0 : wp.cell? ⟨jp, 0, none⟩ = some (.int .i64 x0) := by rw [cell_of_row _ _ _ _ _ _ rp]; rfl
        have g1 : wp.cell? ⟨jp, 1, none⟩ = some (.int .i64 x1) := by rw [cell_of_row _ _ _ _ _ _ rp]; rfl
        have g2 : wp.cell? ⟨jp, 2, none⟩ = some (.int .i64 x2) := by rw [cell_of_row _ _ _ _ _ _ rp]; rfl
        have g3 : wp.cell? ⟨jp, 3, none⟩ = some (.int .i64 x3) := by rw [cell_of_row _ _ _ _ _ _ rp]; rfl
        have g4 : wp.cell? ⟨jp, 4, none⟩ = some (.int .i64 x4) := by rw [cell_of_row _ _ _ _ _ _ rp]; rfl
        have bp : Below wr.heap.size wr wp := by rw [← hwp.out]; exact (Below.refl _ _).alloc (Nat.le_refl _) _
        have sp : wp.heap.size = jp + 1 := by rw [← hwp.out, ← hjp.out]; simp
        have hjpe : wr.heap.size = jp := hjp.out
        have hBp := hB.trans (bp.mono hz)
        have hzp := hBp.size
        have u0_ := keepcell e0_ bp
        have u1_ := keepcell e1_ bp
        have HSP := Lib.hid sp
        have HRP := Lib.hid rp
        have HQT := Lib.hid qt
        have HQN := Lib.hid qn
        have HBP := Lib.hid bp
        clear hs sp hjpe rp qt qn bp
        go_wp2_with (rw [hwp.out]; (try rw [hjp.out]))
        refine (sidesI_any false at' x0 x1 x2 x3 x4 _ (by omega) (by omega) (by omega) (by omega) (by omega) (by omega) (by omega) (by omega)).mono ?_
        rintro e w5 ⟨rfl, hb5⟩
        have hs := HS.out
        have sp := HSP.out
        have hjpe := hjp.out
        have bp := HBP.out
        have g0 := keepcell g0 hb5
        have g1 := keepcell g1 hb5
        have g2 := keepcell g2 hb5
        have g3 := keepcell g3 hb5
        have g4 := keepcell g4 hb5
        have u0_ := keepcell u0_ hb5
        have u1_ := keepcell u1_ hb5
        have b5 := bp.trans (hb5.mono (by omega))
        have r5p := (hb5.block jp (by omega)).trans HRP.out
        have hB5 := hBp.trans (hb5.mono hzp)
        have q5t := (b5.block jt (by omega)).trans HQT.out
        have q5n := (b5.block jn (by omega)).trans HQN.out
        have hq5 : ∀ g, g < jp → w5.heap[g]? = wr.heap[g]? := fun g hg => b5.block g (by omega)
        have hacA5 := hacA.below b5
        have hacB5 := hacB.below b5
        have hanA5 := hanA.below b5
        have hanB5 := hanB.below b5
        have z5 : jp < w5.heap.size := by have := hb5.size; omega
        have lz5 : lo ≤ w5.heap.size := by omega
        clear bp hb5 b5
        by_cases y9 : at' ≤ x1
        · have hbf : before ⟨false, at'⟩ ⟨x0, x1, x2, x3, x4⟩ = false := (decide_eq_false (show ¬ x1 < at' by omega) : decide (x1 < at') = false)
          have HBF := Lib.hid hbf
          rw [hbf]
          clear hbf
          obtain ⟨wq, hwq⟩ : ∃ v, Hid (w5.setCell ⟨jp, 1, none⟩ (.int .i64 (x1 - at')) = v) := ⟨_, rfl⟩
          have fg : w5.frozen? ⟨jp, 1, none⟩ = false := frozen_of_row _ _ _ _ _ r5p
          have rq := row_set (o := 1) (.int .i64 (x1 - at')) r5p
          have hqq : ∀ g, g < jp → wq.heap[g]? = w5.heap[g]? := fun g hg => by rw [← hwq.out, row_far _ (by omega)]
          have hqA := acc_new hacA hacA5 (Nat.le_of_eq hjpe) (o := 1) (.int .i64 (x1 - at'))
          have hqB := acc_new hacB hacB5 (Nat.le_of_eq hjpe) (o := 1) (.int .i64 (x1 - at'))
          have hqC := acc_new hanA hanA5 (Nat.le_of_eq hjpe) (o := 1) (.int .i64 (x1 - at'))
          have hqD := acc_new hanB hanB5 (Nat.le_of_eq hjpe) (o := 1) (.int .i64 (x1 - at'))
          have hBq := below_set hB5 (show W.heap.size ≤ jp by omega) (o := 1) (.int .i64 (x1 - at'))
          have sq : w5.heap.size = wq.heap.size := by rw [← hwq.out, set_size]
          rw [hwq.out] at rq hqA hqB hqC hqD hBq
          have hsub : IntKind.i64.wrap (x1 - at') = x1 - at' := by simp (disch := omega) only [IntWalk.i64_in]
          have y0 : wq.cell? ⟨jp, 0, none⟩ = some (.int .i64 x0) := by rw [cell_of_row _ _ _ _ _ _ rq]; rfl
          have y1 : wq.cell? ⟨jp, 1, none⟩ = some (.int .i64 (x1 - at')) := by rw [cell_of_row _ _ _ _ _ _ rq]; rfl
          have y2 : wq.cell? ⟨jp, 2, none⟩ = some (.int .i64 x2) := by rw [cell_of_row _ _ _ _ _ _ rq]; rfl
          have y3 : wq.cell? ⟨jp, 3, none⟩ = some (.int .i64 x3) := by rw [cell_of_row _ _ _ _ _ _ rq]; rfl
          have y4 : wq.cell? ⟨jp, 4, none⟩ = some (.int .i64 x4) := by rw [cell_of_row _ _ _ _ _ _ rq]; rfl
          have qqt := (hqq jt (by omega)).trans q5t
          have qqn := (hqq jn (by omega)).trans q5n
          have ct : wq.cell? ⟨jt, 5, none⟩ = some vd := by rw [cell_of_row _ _ _ _ _ _ qqt]; rfl
          have hjt7 : jt < lo := by omega
          have hjn7 : jn < lo := by omega
          have hloq : lo ≤ wq.heap.size := by omega
          have hjq : jp < wq.heap.size := by omega
          have hjtq : jt < wq.heap.size := by omega
          have hln : (partB ⟨false, at'⟩ (ps.take k)).length + 1 ≤ 4294967296 := by omega
          have hln2 : (numsUp ⟨false, at'⟩ ps false k).length + 1 ≤ 4294967296 := by omega
          have HSQ := Lib.hid sq
          clear hs sp hjpe sq q5t q5n r5p
          have HQQT := Lib.hid qqt
          have HQQN := Lib.hid qqn
          have HRQ := Lib.hid rq
          clear qqt qqn rq
          go_wp2_with rw [hwq.out]
          go_region_law (refine step_acc1 rfl _ _ 28 rfl lo 44 (.agg #[.int .i64 0, .int .i64 0, .int .i64 0, .int .i64 0, .int .i64 0]) 5 40 Try.underlying28 infoPatch rfl (by omega) vd _ patchC ⟨x0, (x1 - at'), x2, x3, x4⟩ (by simp [Act.eval, Act.put]) ((hqB.drew).alloc _) _ _ _ _ (heap_alloc_new _ _) rfl (by simp [Act.eval, Act.put]) rfl (by simp [patchC, Value.oneCell']) hln (by omega) (by simp [World.drew]; omega) _ rfl ?_; intro v7 w7 hacc7 hgrow7 hat7 hk7; have hch7 : ∀ g, g < lo → w7.heap[g]? = wq.heap[g]? := fun g hg => (hgrow7.block g (Nat.lt_of_lt_of_le (show g < wq.heap.size by omega) ((Below.refl _ _).alloc (Nat.le_refl _) _ : Below (World.drew wq).heap.size (World.drew wq) _).size) (fun e => by have := (hqB.row e.symm).1; omega)).trans (Below.heap_alloc _ _ g (show g < wq.heap.size by omega)); have f7 : w7.frozen? ⟨jt, 5, none⟩ = false := frozen_of_row _ _ _ _ _ ((hch7 jt hjt7).trans HQQT.out); have c7 := cell_blk ct (hch7 jt hjt7); obtain ⟨A7, c7', e8, _, _⟩ := hacc7.own patchC_len; obtain ⟨L7, e7⟩ : ∃ L : Nat, v7 = .slice A7 L c7' := ⟨_, e8⟩; have E7 := Lib.hid e7; rw [e7]; clear e7 e8)
          all_goals
            have hs := HS.out
            have sq := HSQ.out
            have hjpe := hjp.out
            have sp := HSP.out
            obtain ⟨h1, h2, h3, h4, h5, h6⟩ := hdis
            have hcs7 := hgrow7.size
            have hqsz : wq.heap.size ≤ w7.heap.size := Nat.le_trans ((Below.refl _ _).alloc (Nat.le_refl _) _ : Below (World.drew wq).heap.size (World.drew wq) _).size hcs7
            obtain ⟨w8, hw8⟩ : ∃ v, Hid (w7.setCell ⟨jt, 5, none⟩ (.slice A7 L7 c7') = v) := ⟨_, rfl⟩
            rw [hw8.out]
            have hqA_ := ((hqA.drew).alloc _).kept hgrow7 (fun g hg => h1 g hg)
            have hqA8 := acc_low hqA_ hjt7 (o := 5) (.slice A7 L7 c7')
            have hqC_ := ((hqC.drew).alloc _).kept hgrow7 (fun g hg => h4.symm g hg)
            have hqC8 := acc_low hqC_ hjt7 (o := 5) (.slice A7 L7 c7')
            have hqD_ := ((hqD.drew).alloc _).kept hgrow7 (fun g hg => h5.symm g hg)
            have hqD8 := acc_low hqD_ hjt7 (o := 5) (.slice A7 L7 c7')
            have hmain8 := acc_low hacc7 hjt7 (o := 5) (.slice A7 L7 c7')
            have hB7 := ((hqB.drew).alloc _).grow_below ((hBq.drew).alloc hBq.drew.size _) hgrow7 hWlo ((hBq.drew).alloc hBq.drew.size _).size
            have hB8 := below_set hB7 (show W.heap.size ≤ jt by omega) (o := 5) (.slice A7 L7 c7')
            have q8t := row_set (o := 5) (.slice A7 L7 c7') ((hch7 jt hjt7).trans HQQT.out)
            have q8n := (row_far (w := w7) (b := jt) (o := 5) (.slice A7 L7 c7') (show jn ≠ jt by omega)).trans ((hch7 jn hjn7).trans HQQN.out)
            have hch8 : ∀ g, g < lo → g ≠ jt → (w7.setCell ⟨jt, 5, none⟩ (.slice A7 L7 c7')).heap[g]? = wq.heap[g]? := fun g hg hne => (row_far _ hne).trans (hch7 g hg)
            have sz8 : lo ≤ (w7.setCell ⟨jt, 5, none⟩ (.slice A7 L7 c7')).heap.size := by rw [set_size]; omega
            have sw8 : wq.heap.size ≤ (w7.setCell ⟨jt, 5, none⟩ (.slice A7 L7 c7')).heap.size := by rw [set_size]; omega
            rw [hw8.out] at hqA8 hqC8 hqD8 hmain8 hB8 q8t q8n hch8 sz8 sw8
            have hrow : ∀ (q : Value) (m : Nat) (e : TypeId) (sz : Nat) (α : Type) (xs : List α) (cells : α → List Value), Acc wq lo e sz q xs cells → ∀ g, q.ownBlock = some g → g < ((World.drew wq).alloc (.cells #[.int .i64 x0, .int .i64 (x1 - at'), .int .i64 x2, .int .i64 x3, .int .i64 x4] 44)).heap.size := fun q m e sz α xs cells hh g hg => Nat.lt_of_lt_of_le (hh.row hg).2 ((Below.refl _ _).alloc (Nat.le_refl _) _ : Below (World.drew wq).heap.size (World.drew wq) _).size
            have m1 := h1.right hat7 (hrow va 0 _ _ _ _ _ hqA)
            have m4 := h4.left hat7 (hrow na 0 _ _ _ _ _ hqC)
            have m5 := h5.left hat7 (hrow nd 0 _ _ _ _ _ hqD)
            have m2 := h2
            have m3 := h3
            have m6 := h6
            have cn : w8.cell? ⟨jn, 1, none⟩ = some nd := by rw [cell_of_row _ _ _ _ _ _ q8n]; rfl
            have HQ8T := Lib.hid q8t
            have HQ8N := Lib.hid q8n
            clear hs sq hjpe sp q8t q8n hrow h1 h2 h3 h4 h5 h6 hqsz hcs7
            go_wp2_with (at_builtin; refine wpList_acc1 rfl _ _ 42 rfl lo 3 (.int .i64 0) 1 8 Try.underlying42 infoIntA rfl (by omega) _ _ intC (k : Int) rfl hqD8 _ _ rfl _ rfl (by simp) rfl (by simp [intC, Value.oneCell']) hln2 (by omega) sz8 ?_; intro v9 w9 hacc9 hgrow9 hat9; have hch9 : ∀ g, g < lo → w9.heap[g]? = w8.heap[g]? := fun g hg => hgrow9.block g (by omega) (fun e => by have := (hqD8.row e.symm).1; omega); have f9 : w9.frozen? ⟨jn, 1, none⟩ = false := frozen_of_row _ _ _ _ _ ((hch9 jn hjn7).trans HQ8N.out); have c9 := cell_blk cn (hch9 jn hjn7); obtain ⟨A9, c9', e8, _, _⟩ := hacc9.own (fun _ => rfl); obtain ⟨L9, e9⟩ : ∃ L : Nat, v9 = .slice A9 L c9' := ⟨_, e8⟩; have E9 := Lib.hid e9; rw [e9]; clear e9 e8)
            go_roundw
            case rel =>
              rw [← E9.out]
              have hs := HS.out
              have hqA89 := acc_low (hqA8.kept hgrow9 (fun g hg => m3 g hg)) hjn7 (o := 1) v9
              have hmain89 := acc_low (hmain8.kept hgrow9 (fun g hg => m5 g hg)) hjn7 (o := 1) v9
              have hqC89 := acc_low (hqC8.kept hgrow9 (fun g hg => m6 g hg)) hjn7 (o := 1) v9
              have hnum9 := acc_low hacc9 hjn7 (o := 1) v9
              have hrw : ∀ (q : Value) (e : TypeId) (sz : Nat) (α : Type) (xs : List α) (cells : α → List Value), Acc w8 lo e sz q xs cells → ∀ g, q.ownBlock = some g → g < w8.heap.size + 1 := fun q e sz α xs cells hh g hg => by have := (hh.row hg).2; omega
              have m3' := m3.right hat9 (hrw va _ _ _ _ _ hqA8)
              have m5' := m5.right hat9 (hrw v7 _ _ _ _ _ hmain8)
              have m6' := m6.right hat9 (hrw na _ _ _ _ _ hqC8)
              have q9t := (row_far (w := w9) (b := jn) (o := 1) v9 (show jt ≠ jn by omega)).trans ((hch9 jt hjt7).trans HQ8T.out)
              have q9n := row_set (o := 1) v9 ((hch9 jn hjn7).trans HQ8N.out)
              rw [← E7.out] at q9t
              have hB9 := below_set (hqD8.grow_below hB8 hgrow9 hWlo hB8.size) (show W.heap.size ≤ jn by omega) (o := 1) v9
              have hkeep : ∀ g, g < lo → g ≠ jt → g ≠ jn → (w9.setCell ⟨jn, 1, none⟩ v9).heap[g]? = w0.heap[g]? := fun g g1 g2 g3 => by rw [row_far _ g3]; exact (hch9 g g1).trans ((hch8 g g1 g2).trans ((hqq g (by have := hjp.out; omega)).trans ((hq5 g (by have := hjp.out; omega)).trans (hF.out g g1 g2 g3))))
              exact ⟨k + 1, va, v7, na, v9, by omega, by go_num, q9t, q9n, by rw [← pA_no HX.out HBF.out]; exact hqA89, by rw [← pB_yes HX.out HBF.out]; exact hmain89, by rw [← nums_no HX.out (first := true) HBF.out]; exact hqC89, by rw [← nums_yes HX.out HBF.out]; exact hnum9, ⟨m1, m2, m3', m4, m5', m6'⟩, hkeep, hB9, by rw [set_size]; exact Nat.le_trans sz8 hgrow9.size⟩
            case measure => simp [intOf]; omega
        · have hbf : before ⟨false, at'⟩ ⟨x0, x1, x2, x3, x4⟩ = true := (decide_eq_true (show x1 < at' by omega) : decide (x1 < at') = true)
          have HBF := Lib.hid hbf
          rw [hbf]
          clear hbf
          obtain ⟨wq, hwq⟩ : ∃ v, Hid (w5 = v) := ⟨_, rfl⟩
          have rq := r5p
          have hqq : ∀ g, g < jp → wq.heap[g]? = w5.heap[g]? := fun g hg => by rw [← hwq.out]
          have hqA := hacA5
          have hqB := hacB5
          have hqC := hanA5
          have hqD := hanB5
          have hBq := hB5
          rw [hwq.out] at rq hqA hqB hqC hqD hBq z5 lz5 g0 g1 g2 g3 g4 u0_ u1_ ⊢
          have sq : w5.heap.size = wq.heap.size := by rw [← hwq.out]
          have y0 : wq.cell? ⟨jp, 0, none⟩ = some (.int .i64 x0) := by rw [cell_of_row _ _ _ _ _ _ rq]; rfl
          have y1 : wq.cell? ⟨jp, 1, none⟩ = some (.int .i64 x1) := by rw [cell_of_row _ _ _ _ _ _ rq]; rfl
          have y2 : wq.cell? ⟨jp, 2, none⟩ = some (.int .i64 x2) := by rw [cell_of_row _ _ _ _ _ _ rq]; rfl
          have y3 : wq.cell? ⟨jp, 3, none⟩ = some (.int .i64 x3) := by rw [cell_of_row _ _ _ _ _ _ rq]; rfl
          have y4 : wq.cell? ⟨jp, 4, none⟩ = some (.int .i64 x4) := by rw [cell_of_row _ _ _ _ _ _ rq]; rfl
          have qqt := (hqq jt (by omega)).trans q5t
          have qqn := (hqq jn (by omega)).trans q5n
          have ct : wq.cell? ⟨jt, 2, none⟩ = some va := by rw [cell_of_row _ _ _ _ _ _ qqt]; rfl
          have hjt7 : jt < lo := by omega
          have hjn7 : jn < lo := by omega
          have hloq : lo ≤ wq.heap.size := by omega
          have hjq : jp < wq.heap.size := by omega
          have hjtq : jt < wq.heap.size := by omega
          have hln : (partA ⟨false, at'⟩ (ps.take k)).length + 1 ≤ 4294967296 := by omega
          have hln2 : (numsUp ⟨false, at'⟩ ps true k).length + 1 ≤ 4294967296 := by omega
          have HSQ := Lib.hid sq
          clear hs sp hjpe sq q5t q5n r5p
          have HQQT := Lib.hid qqt
          have HQQN := Lib.hid qqn
          have HRQ := Lib.hid rq
          clear qqt qqn rq
          go_wp2_with fail
          go_region_law (refine step_acc1 rfl _ _ 28 rfl lo 44 (.agg #[.int .i64 0, .int .i64 0, .int .i64 0, .int .i64 0, .int .i64 0]) 5 40 Try.underlying28 infoPatch rfl (by omega) va _ patchC ⟨x0, x1, x2, x3, x4⟩ (by simp [Act.eval, Act.put]) ((hqA.drew).alloc _) _ _ _ _ (heap_alloc_new _ _) rfl (by simp [Act.eval, Act.put]) rfl (by simp [patchC, Value.oneCell']) hln (by omega) (by simp [World.drew]; omega) _ rfl ?_; intro v7 w7 hacc7 hgrow7 hat7 hk7; have hch7 : ∀ g, g < lo → w7.heap[g]? = wq.heap[g]? := fun g hg => (hgrow7.block g (Nat.lt_of_lt_of_le (show g < wq.heap.size by omega) ((Below.refl _ _).alloc (Nat.le_refl _) _ : Below (World.drew wq).heap.size (World.drew wq) _).size) (fun e => by have := (hqA.row e.symm).1; omega)).trans (Below.heap_alloc _ _ g (show g < wq.heap.size by omega)); have f7 : w7.frozen? ⟨jt, 2, none⟩ = false := frozen_of_row _ _ _ _ _ ((hch7 jt hjt7).trans HQQT.out); have c7 := cell_blk ct (hch7 jt hjt7); obtain ⟨A7, c7', e8, _, _⟩ := hacc7.own patchC_len; obtain ⟨L7, e7⟩ : ∃ L : Nat, v7 = .slice A7 L c7' := ⟨_, e8⟩; have E7 := Lib.hid e7; rw [e7]; clear e7 e8)
          all_goals
            have hs := HS.out
            have sq := HSQ.out
            have hjpe := hjp.out
            have sp := HSP.out
            obtain ⟨h1, h2, h3, h4, h5, h6⟩ := hdis
            have hcs7 := hgrow7.size
            have hqsz : wq.heap.size ≤ w7.heap.size := Nat.le_trans ((Below.refl _ _).alloc (Nat.le_refl _) _ : Below (World.drew wq).heap.size (World.drew wq) _).size hcs7
            obtain ⟨w8, hw8⟩ : ∃ v, Hid (w7.setCell ⟨jt, 2, none⟩ (.slice A7 L7 c7') = v) := ⟨_, rfl⟩
            rw [hw8.out]
            have hqB_ := ((hqB.drew).alloc _).kept hgrow7 (fun g hg => h1.symm g hg)
            have hqB8 := acc_low hqB_ hjt7 (o := 2) (.slice A7 L7 c7')
            have hqC_ := ((hqC.drew).alloc _).kept hgrow7 (fun g hg => h2.symm g hg)
            have hqC8 := acc_low hqC_ hjt7 (o := 2) (.slice A7 L7 c7')
            have hqD_ := ((hqD.drew).alloc _).kept hgrow7 (fun g hg => h3.symm g hg)
            have hqD8 := acc_low hqD_ hjt7 (o := 2) (.slice A7 L7 c7')
            have hmain8 := acc_low hacc7 hjt7 (o := 2) (.slice A7 L7 c7')
            have hB7 := ((hqA.drew).alloc _).grow_below ((hBq.drew).alloc hBq.drew.size _) hgrow7 hWlo ((hBq.drew).alloc hBq.drew.size _).size
            have hB8 := below_set hB7 (show W.heap.size ≤ jt by omega) (o := 2) (.slice A7 L7 c7')
            have q8t := row_set (o := 2) (.slice A7 L7 c7') ((hch7 jt hjt7).trans HQQT.out)
            have q8n := (row_far (w := w7) (b := jt) (o := 2) (.slice A7 L7 c7') (show jn ≠ jt by omega)).trans ((hch7 jn hjn7).trans HQQN.out)
            have hch8 : ∀ g, g < lo → g ≠ jt → (w7.setCell ⟨jt, 2, none⟩ (.slice A7 L7 c7')).heap[g]? = wq.heap[g]? := fun g hg hne => (row_far _ hne).trans (hch7 g hg)
            have sz8 : lo ≤ (w7.setCell ⟨jt, 2, none⟩ (.slice A7 L7 c7')).heap.size := by rw [set_size]; omega
            have sw8 : wq.heap.size ≤ (w7.setCell ⟨jt, 2, none⟩ (.slice A7 L7 c7')).heap.size := by rw [set_size]; omega
            rw [hw8.out] at hqB8 hqC8 hqD8 hmain8 hB8 q8t q8n hch8 sz8 sw8
            have hrow : ∀ (q : Value) (m : Nat) (e : TypeId) (sz : Nat) (α : Type) (xs : List α) (cells : α → List Value), Acc wq lo e sz q xs cells → ∀ g, q.ownBlock = some g → g < ((World.drew wq).alloc (.cells #[.int .i64 x0, .int .i64 x1, .int .i64 x2, .int .i64 x3, .int .i64 x4] 44)).heap.size := fun q m e sz α xs cells hh g hg => Nat.lt_of_lt_of_le (hh.row hg).2 ((Below.refl _ _).alloc (Nat.le_refl _) _ : Below (World.drew wq).heap.size (World.drew wq) _).size
            have m1 := h1.left hat7 (hrow vd 0 _ _ _ _ _ hqB)
            have m2 := h2.left hat7 (hrow na 0 _ _ _ _ _ hqC)
            have m3 := h3.left hat7 (hrow nd 0 _ _ _ _ _ hqD)
            have m4 := h4
            have m5 := h5
            have m6 := h6
            have cn : w8.cell? ⟨jn, 0, none⟩ = some na := by rw [cell_of_row _ _ _ _ _ _ q8n]; rfl
            have HQ8T := Lib.hid q8t
            have HQ8N := Lib.hid q8n
            clear hs sq hjpe sp q8t q8n hrow h1 h2 h3 h4 h5 h6 hqsz hcs7
            go_wp2_with (at_builtin; refine wpList_acc1 rfl _ _ 42 rfl lo 3 (.int .i64 0) 1 8 Try.underlying42 infoIntA rfl (by omega) _ _ intC (k : Int) rfl hqC8 _ _ rfl _ rfl (by simp) rfl (by simp [intC, Value.oneCell']) hln2 (by omega) sz8 ?_; intro v9 w9 hacc9 hgrow9 hat9; have hch9 : ∀ g, g < lo → w9.heap[g]? = w8.heap[g]? := fun g hg => hgrow9.block g (by omega) (fun e => by have := (hqC8.row e.symm).1; omega); have f9 : w9.frozen? ⟨jn, 0, none⟩ = false := frozen_of_row _ _ _ _ _ ((hch9 jn hjn7).trans HQ8N.out); have c9 := cell_blk cn (hch9 jn hjn7); obtain ⟨A9, c9', e8, _, _⟩ := hacc9.own (fun _ => rfl); obtain ⟨L9, e9⟩ : ∃ L : Nat, v9 = .slice A9 L c9' := ⟨_, e8⟩; have E9 := Lib.hid e9; rw [e9]; clear e9 e8)
            go_roundw
            case rel =>
              rw [← E9.out]
              have hs := HS.out
              have hmain89 := acc_low (hmain8.kept hgrow9 (fun g hg => m2 g hg)) hjn7 (o := 0) v9
              have hqB89 := acc_low (hqB8.kept hgrow9 (fun g hg => m4 g hg)) hjn7 (o := 0) v9
              have hqD89 := acc_low (hqD8.kept hgrow9 (fun g hg => m6.symm g hg)) hjn7 (o := 0) v9
              have hnum9 := acc_low hacc9 hjn7 (o := 0) v9
              have hrw : ∀ (q : Value) (e : TypeId) (sz : Nat) (α : Type) (xs : List α) (cells : α → List Value), Acc w8 lo e sz q xs cells → ∀ g, q.ownBlock = some g → g < w8.heap.size + 1 := fun q e sz α xs cells hh g hg => by have := (hh.row hg).2; omega
              have m2' := m2.right hat9 (hrw v7 _ _ _ _ _ hmain8)
              have m4' := m4.right hat9 (hrw vd _ _ _ _ _ hqB8)
              have m6' := m6.left hat9 (hrw nd _ _ _ _ _ hqD8)
              have q9t := (row_far (w := w9) (b := jn) (o := 0) v9 (show jt ≠ jn by omega)).trans ((hch9 jt hjt7).trans HQ8T.out)
              have q9n := row_set (o := 0) v9 ((hch9 jn hjn7).trans HQ8N.out)
              rw [← E7.out] at q9t
              have hB9 := below_set (hqC8.grow_below hB8 hgrow9 hWlo hB8.size) (show W.heap.size ≤ jn by omega) (o := 0) v9
              have hkeep : ∀ g, g < lo → g ≠ jt → g ≠ jn → (w9.setCell ⟨jn, 0, none⟩ v9).heap[g]? = w0.heap[g]? := fun g g1 g2 g3 => by rw [row_far _ g3]; exact (hch9 g g1).trans ((hch8 g g1 g2).trans ((hqq g (by have := hjp.out; omega)).trans ((hq5 g (by have := hjp.out; omega)).trans (hF.out g g1 g2 g3))))
              exact ⟨k + 1, v7, vd, v9, nd, by omega, by go_num, q9t, q9n, by rw [← pA_yes HX.out HBF.out]; exact hmain89, by rw [← pB_no HX.out HBF.out]; exact hqB89, by rw [← nums_yes HX.out HBF.out]; exact hnum9, by rw [← nums_no HX.out (first := false) HBF.out]; exact hqD89, ⟨m1, m2', m3, m4', m5, m6'⟩, hkeep, hB9, by rw [set_size]; exact Nat.le_trans sz8 hgrow9.size⟩
            case measure => simp [intOf]; omega
      · obtain rfl : k = n := by omega
        rw [List.take_of_length_le (Nat.le_of_eq HLEN.out)] at hacA hacB
        obtain ⟨A1, c1, rfl, _, _⟩ := hacA.own patchC_len
        obtain ⟨A2, c2, rfl, _, _⟩ := hacB.own patchC_len
        obtain ⟨N1, d1, rfl, hd1, _⟩ := hanA.own (fun _ => rfl)
        obtain ⟨N2, d2, rfl, hd2, _⟩ := hanB.own (fun _ => rfl)
        have Z4 := (hF.out r4 (by omega) (by omega) (by omega)).trans qr4
        have Z5 := (hF.out r5 (by omega) (by omega) (by omega)).trans qr5
        have ct0 : wr.cell? ⟨jt, 0, none⟩ = some (.int .i64 w) := by rw [cell_of_row _ _ _ _ _ _ qt]; rfl
        have ct1 : wr.cell? ⟨jt, 1, none⟩ = some (.int .i64 at') := by rw [cell_of_row _ _ _ _ _ _ qt]; rfl
        have ct2 : wr.cell? ⟨jt, 2, none⟩ = some (.slice A1 (partA ⟨false, at'⟩ ps).length c1) := by rw [cell_of_row _ _ _ _ _ _ qt]; rfl
        have ct3 : wr.cell? ⟨jt, 3, none⟩ = some (.int .i64 w) := by rw [cell_of_row _ _ _ _ _ _ qt]; rfl
        have ct4 : wr.cell? ⟨jt, 4, none⟩ = some (.int .i64 (h - at')) := by rw [cell_of_row _ _ _ _ _ _ qt]; rfl
        have ct5 : wr.cell? ⟨jt, 5, none⟩ = some (.slice A2 (partB ⟨false, at'⟩ ps).length c2) := by rw [cell_of_row _ _ _ _ _ _ qt]; rfl
        have cn0 : wr.cell? ⟨jn, 0, none⟩ = some (.slice N1 (numsUp ⟨false, at'⟩ ps true k).length d1) := by rw [cell_of_row _ _ _ _ _ _ qn]; rfl
        have cn1 : wr.cell? ⟨jn, 1, none⟩ = some (.slice N2 (numsUp ⟨false, at'⟩ ps false k).length d2) := by rw [cell_of_row _ _ _ _ _ _ qn]; rfl
        have y4_0 : wr.cell? ⟨r4, 0, none⟩ = some (.int .i64 0) := by rw [cell_of_row _ _ _ _ _ _ Z4]; rfl
        have x4_0 : wr.frozen? ⟨r4, 0, none⟩ = false := frozen_of_row _ _ _ _ _ Z4
        have y4_1 : wr.cell? ⟨r4, 1, none⟩ = some (.int .i64 0) := by rw [cell_of_row _ _ _ _ _ _ Z4]; rfl
        have x4_1 : wr.frozen? ⟨r4, 1, none⟩ = false := frozen_of_row _ _ _ _ _ Z4
        have y4_2 : wr.cell? ⟨r4, 2, none⟩ = some (.slice none 0 0) := by rw [cell_of_row _ _ _ _ _ _ Z4]; rfl
        have x4_2 : wr.frozen? ⟨r4, 2, none⟩ = false := frozen_of_row _ _ _ _ _ Z4
        have y4_3 : wr.cell? ⟨r4, 3, none⟩ = some (.int .i64 0) := by rw [cell_of_row _ _ _ _ _ _ Z4]; rfl
        have x4_3 : wr.frozen? ⟨r4, 3, none⟩ = false := frozen_of_row _ _ _ _ _ Z4
        have y4_4 : wr.cell? ⟨r4, 4, none⟩ = some (.int .i64 0) := by rw [cell_of_row _ _ _ _ _ _ Z4]; rfl
        have x4_4 : wr.frozen? ⟨r4, 4, none⟩ = false := frozen_of_row _ _ _ _ _ Z4
        have y4_5 : wr.cell? ⟨r4, 5, none⟩ = some (.slice none 0 0) := by rw [cell_of_row _ _ _ _ _ _ Z4]; rfl
        have x4_5 : wr.frozen? ⟨r4, 5, none⟩ = false := frozen_of_row _ _ _ _ _ Z4
        have y5_0 : wr.cell? ⟨r5, 0, none⟩ = some (.slice none 0 0) := by rw [cell_of_row _ _ _ _ _ _ Z5]; rfl
        have x5_0 : wr.frozen? ⟨r5, 0, none⟩ = false := frozen_of_row _ _ _ _ _ Z5
        have y5_1 : wr.cell? ⟨r5, 1, none⟩ = some (.slice none 0 0) := by rw [cell_of_row _ _ _ _ _ _ Z5]; rfl
        have x5_1 : wr.frozen? ⟨r5, 1, none⟩ = false := frozen_of_row _ _ _ _ _ Z5
        have hr45 : ¬ r4 = r5 := by omega
        have hr54 : ¬ r5 = r4 := by omega
        have hr4jt : ¬ r4 = jt := by omega
        have hr5jt : ¬ r5 = jt := by omega
        have hr4jn : ¬ r4 = jn := by omega
        have hr5jn : ¬ r5 = jn := by omega
        have HR4 : Hid (W.heap.size ≤ r4 ∧ W.heap.size ≤ r5 ∧ r4 < lo ∧ r5 < lo ∧ W.heap.size ≤ lo) := by refine ⟨?_, ?_, ?_, ?_, ?_⟩ <;> omega
        have HhacA := Lib.hid hacA
        have HhacB := Lib.hid hacB
        have HhanA := Lib.hid hanA
        have HhanB := Lib.hid hanB
        have HhB := Lib.hid hB
        have HD := Lib.hid (And.intro hd1 hd2)
        have HDIS := Lib.hid hdis
        clear hacA hacB hanA hanB hB qt qn Z4 Z5 hdis hF e0_ e1_ hs HS hat hd1 hd2
        go_wp2
        go_region
        all_goals
          go_wp2
          refine bodyPost_ret (v := .tuple #[.agg #[.int .i64 w, .int .i64 at', .slice A1 (partA ⟨false, at'⟩ ps).length c1, .int .i64 w, .int .i64 (h - at'), .slice A2 (partB ⟨false, at'⟩ ps).length c2], .agg #[.slice N1 (numsUp ⟨false, at'⟩ ps true k).length d1, .slice N2 (numsUp ⟨false, at'⟩ ps false k).length d2]]) (by simp [results, Try.results87, go_sem, World.cell?_setCell_same', World.cell?_setCell_other, y4_0, y4_1, y4_2, y4_3, y4_4, y4_5, y5_0, y5_1, hr45, hr54]) rfl ?_
          obtain ⟨q1, q2, q3, q4, q5⟩ := HR4.out
          exact ⟨A1, _, c1, A2, _, c2, N1, _, d1, N2, _, d2, rfl, acc_own (acc_low (acc_low (acc_low (acc_low (acc_low (acc_low (acc_low (acc_low (HhacA.out) q3 _) q3 _) q3 _) q3 _) q3 _) q3 _) q4 _) q4 _).drew patchC_len q5, acc_own (acc_low (acc_low (acc_low (acc_low (acc_low (acc_low (acc_low (acc_low (HhacB.out) q3 _) q3 _) q3 _) q3 _) q3 _) q3 _) q4 _) q4 _).drew patchC_len q5, acc_own (acc_low (acc_low (acc_low (acc_low (acc_low (acc_low (acc_low (acc_low (HhanA.out) q3 _) q3 _) q3 _) q3 _) q3 _) q3 _) q4 _) q4 _).drew (fun _ => rfl) q5, acc_own (acc_low (acc_low (acc_low (acc_low (acc_low (acc_low (acc_low (acc_low (HhanB.out) q3 _) q3 _) q3 _) q3 _) q3 _) q3 _) q4 _) q4 _).drew (fun _ => rfl) q5, HD.out, (below_set (below_set (below_set (below_set (below_set (below_set (below_set (below_set (HhB.out) q1 _) q1 _) q1 _) q1 _) q1 _) q1 _) q2 _) q2 _).drew, HDIS.out⟩
  · have hat : 1 ≤ at' ∧ at' ≤ w - 1 := hib
    clear hib
    obtain ⟨jb, hjb⟩ : ∃ j, Hid (W.heap.size = j) := ⟨_, rfl⟩
    obtain ⟨wa, hwa⟩ : ∃ v, Hid (W.alloc (.cells #[.int .i64 w, .int .i64 h, .slice A n c] 30) = v) := ⟨_, rfl⟩
    have rjb : wa.heap[jb]? = some (.cells #[.int .i64 w, .int .i64 h, .slice A n c] 30 (0, 0)) := by rw [← hwa.out, ← hjb.out]; exact heap_alloc_new W _
    have bwa : Below W.heap.size W wa := by rw [← hwa.out]; exact (Below.refl _ _).alloc (Nat.le_refl _) _
    have swa : wa.heap.size = jb + 1 := by rw [← hwa.out, ← hjb.out]; simp
    obtain ⟨jc, hjc⟩ : ∃ j, Hid (wa.heap.size = j) := ⟨_, rfl⟩
    obtain ⟨wb, hwb⟩ : ∃ v, Hid (wa.alloc (.cells #[.bool true, .int .i64 at'] 72) = v) := ⟨_, rfl⟩
    have rjc : wb.heap[jc]? = some (.cells #[.bool true, .int .i64 at'] 72 (0, 0)) := by rw [← hwb.out, ← hjc.out]; exact heap_alloc_new wa _
    have bwb : Below wa.heap.size wa wb := by rw [← hwb.out]; exact (Below.refl _ _).alloc (Nat.le_refl _) _
    have swb : wb.heap.size = jc + 1 := by rw [← hwb.out, ← hjc.out]; simp
    obtain ⟨r4, hr4⟩ : ∃ j, Hid (wb.heap.size = j) := ⟨_, rfl⟩
    obtain ⟨wc, hwc⟩ : ∃ v, Hid (wb.alloc (.cells #[.int .i64 0, .int .i64 0, .slice none 0 0, .int .i64 0, .int .i64 0, .slice none 0 0] 98) = v) := ⟨_, rfl⟩
    have rr4 : wc.heap[r4]? = some (.cells #[.int .i64 0, .int .i64 0, .slice none 0 0, .int .i64 0, .int .i64 0, .slice none 0 0] 98 (0, 0)) := by rw [← hwc.out, ← hr4.out]; exact heap_alloc_new wb _
    have bwc : Below wb.heap.size wb wc := by rw [← hwc.out]; exact (Below.refl _ _).alloc (Nat.le_refl _) _
    have swc : wc.heap.size = r4 + 1 := by rw [← hwc.out, ← hr4.out]; simp
    obtain ⟨r5, hr5⟩ : ∃ j, Hid (wc.heap.size = j) := ⟨_, rfl⟩
    obtain ⟨wd, hwd⟩ : ∃ v, Hid (wc.alloc (.cells #[.slice none 0 0, .slice none 0 0] 99) = v) := ⟨_, rfl⟩
    have rr5 : wd.heap[r5]? = some (.cells #[.slice none 0 0, .slice none 0 0] 99 (0, 0)) := by rw [← hwd.out, ← hr5.out]; exact heap_alloc_new wc _
    have bwd : Below wc.heap.size wc wd := by rw [← hwd.out]; exact (Below.refl _ _).alloc (Nat.le_refl _) _
    have swd : wd.heap.size = r5 + 1 := by rw [← hwd.out, ← hr5.out]; simp
    obtain ⟨jt, hjt⟩ : ∃ j, Hid (wd.heap.size = j) := ⟨_, rfl⟩
    obtain ⟨we, hwe⟩ : ∃ v, Hid (wd.alloc (.cells #[.int .i64 at', .int .i64 h, .slice none 0 0, .int .i64 (w - at'), .int .i64 h, .slice none 0 0] 98) = v) := ⟨_, rfl⟩
    have rjt : we.heap[jt]? = some (.cells #[.int .i64 at', .int .i64 h, .slice none 0 0, .int .i64 (w - at'), .int .i64 h, .slice none 0 0] 98 (0, 0)) := by rw [← hwe.out, ← hjt.out]; exact heap_alloc_new wd _
    have bwe : Below wd.heap.size wd we := by rw [← hwe.out]; exact (Below.refl _ _).alloc (Nat.le_refl _) _
    have swe : we.heap.size = jt + 1 := by rw [← hwe.out, ← hjt.out]; simp
    obtain ⟨jn, hjn⟩ : ∃ j, Hid (we.heap.size = j) := ⟨_, rfl⟩
    obtain ⟨w0, hw0⟩ : ∃ v, Hid (we.alloc (.cells #[.slice none 0 0, .slice none 0 0] 99) = v) := ⟨_, rfl⟩
    have rjn : w0.heap[jn]? = some (.cells #[.slice none 0 0, .slice none 0 0] 99 (0, 0)) := by rw [← hw0.out, ← hjn.out]; exact heap_alloc_new we _
    have bw0 : Below we.heap.size we w0 := by rw [← hw0.out]; exact (Below.refl _ _).alloc (Nat.le_refl _) _
    have sw0 : w0.heap.size = jn + 1 := by rw [← hw0.out, ← hjn.out]; simp
    have k1 : jc = jb + 1 := by rw [← hjc.out, swa]
    have k2 : r4 = jb + 2 := by rw [← hr4.out, swb]; omega
    have k3 : r5 = jb + 3 := by rw [← hr5.out, swc]; omega
    have k4 : jt = jb + 4 := by rw [← hjt.out, swd]; omega
    have k5 : jn = jb + 5 := by rw [← hjn.out, swe]; omega
    have k6 : w0.heap.size = jb + 6 := by omega
    have k0 : W.heap.size = jb := hjb.out
    obtain ⟨lo, hlo⟩ : ∃ l, Hid (l = jb + 6) := ⟨_, rfl⟩
    have k7 := hlo.out
    have hB0 : Below W.heap.size W w0 := ((((bwa.trans (bwb.mono (by omega))).trans (bwc.mono (by omega))).trans (bwd.mono (by omega))).trans (bwe.mono (by omega))).trans (bw0.mono (by omega))
    have qjb : w0.heap[jb]? = some (.cells #[.int .i64 w, .int .i64 h, .slice A n c] 30 (0, 0)) := (bw0.block jb (by omega)).trans ((bwe.block jb (by omega)).trans ((bwd.block jb (by omega)).trans ((bwc.block jb (by omega)).trans ((bwb.block jb (by omega)).trans (rjb)))))
    have qjc : w0.heap[jc]? = some (.cells #[.bool true, .int .i64 at'] 72 (0, 0)) := (bw0.block jc (by omega)).trans ((bwe.block jc (by omega)).trans ((bwd.block jc (by omega)).trans ((bwc.block jc (by omega)).trans (rjc))))
    have qr4 : w0.heap[r4]? = some (.cells #[.int .i64 0, .int .i64 0, .slice none 0 0, .int .i64 0, .int .i64 0, .slice none 0 0] 98 (0, 0)) := (bw0.block r4 (by omega)).trans ((bwe.block r4 (by omega)).trans ((bwd.block r4 (by omega)).trans (rr4)))
    have qr5 : w0.heap[r5]? = some (.cells #[.slice none 0 0, .slice none 0 0] 99 (0, 0)) := (bw0.block r5 (by omega)).trans ((bwe.block r5 (by omega)).trans (rr5))
    have qjt : w0.heap[jt]? = some (.cells #[.int .i64 at', .int .i64 h, .slice none 0 0, .int .i64 (w - at'), .int .i64 h, .slice none 0 0] 98 (0, 0)) := (bw0.block jt (by omega)).trans (rjt)
    have qjn : w0.heap[jn]? = some (.cells #[.slice none 0 0, .slice none 0 0] 99 (0, 0)) := rjn
    have X1 : Hid (W.heap.size + 1 = jc) := by show _ = _; omega
    have X2 : Hid (W.heap.size + 1 + 1 = r4) := by show _ = _; omega
    have X3 : Hid (W.heap.size + 1 + 1 + 1 = r5) := by show _ = _; omega
    have X4 : Hid (W.heap.size + 1 + 1 + 1 + 1 = jt) := by show _ = _; omega
    have X5 : Hid (W.heap.size + 1 + 1 + 1 + 1 + 1 = jn) := by show _ = _; omega
    have HS := Lib.hid (And.intro k0 (And.intro k1 (And.intro k2 (And.intro k3 (And.intro k4 (And.intro k5 (And.intro k6 k7)))))))
    have v2 : w0.cell? ⟨jb, 2, none⟩ = some (.slice A n c) := by rw [cell_of_row _ _ _ _ _ _ qjb]; rfl
    have z0 : w0.cell? ⟨jc, 0, none⟩ = some (.bool true) := by rw [cell_of_row _ _ _ _ _ _ qjc]; rfl
    have z1 : w0.cell? ⟨jc, 1, none⟩ = some (.int .i64 at') := by rw [cell_of_row _ _ _ _ _ _ qjc]; rfl
    have HL0 : Hid (lo ≤ w0.heap.size) := by show lo ≤ w0.heap.size; omega
    clear rjb bwa swa rjc bwb swb rr4 bwc swc rr5 bwd swd rjt bwe swe rjn bw0 sw0 k0 k1 k2 k3 k4 k5 k6 k7
    have HB0 := Lib.hid hB0
    clear hB0
    have Hqjb := Lib.hid qjb
    have Hqjc := Lib.hid qjc
    have Hqr4 := Lib.hid qr4
    have Hqr5 := Lib.hid qr5
    have Hqjt := Lib.hid qjt
    have Hqjn := Lib.hid qjn
    have Hv2 := Lib.hid v2
    have Hz0 := Lib.hid z0
    have Hz1 := Lib.hid z1
    clear qjb qjc qr4 qr5 qjt qjn v2 z0 z1
    go_enter Try.func87, Try.ntmps87
    go_wp2_with fail
    rw [hwa.out, hwb.out, hwc.out, hwd.out, hwe.out, hw0.out, X5.out, X4.out, X3.out, X2.out, X1.out, hjb.out]
    have hB0 := HB0.out
    have qr4 := Hqr4.out
    have qr5 := Hqr5.out
    have qjt := Hqjt.out
    have qjn := Hqjn.out
    have v2 := Hv2.out
    have z0 := Hz0.out
    have z1 := Hz1.out
    go_loopw [47] (fun i wr => ∃ (k : Nat) (va vd na nd : Value), k ≤ n ∧ i = .int .i64 (k : Int) ∧ wr.heap[jt]? = some (.cells #[.int .i64 at', .int .i64 h, va, .int .i64 (w - at'), .int .i64 h, vd] 98 (0, 0)) ∧ wr.heap[jn]? = some (.cells #[na, nd] 99 (0, 0)) ∧ Acc wr lo 44 5 va (partA ⟨true, at'⟩ (ps.take k)) patchC ∧ Acc wr lo 44 5 vd (partB ⟨true, at'⟩ (ps.take k)) patchC ∧ Acc wr lo 3 1 na (numsUp ⟨true, at'⟩ ps true k) intC ∧ Acc wr lo 3 1 nd (numsUp ⟨true, at'⟩ ps false k) intC ∧ (Dis va vd ∧ Dis va na ∧ Dis va nd ∧ Dis vd na ∧ Dis vd nd ∧ Dis na nd) ∧ Hid (∀ g, g < lo → g ≠ jt → g ≠ jn → wr.heap[g]? = w0.heap[g]?) ∧ Below W.heap.size W wr ∧ lo ≤ wr.heap.size) (fun i _ => n - (intOf i).toNat)
    case atStart => exact ⟨0, .slice none 0 0, .slice none 0 0, .slice none 0 0, .slice none 0 0, Nat.zero_le _, rfl, qjt, qjn, by simpa [partA] using Acc.nil _ _ _ _ _, by simpa [partB] using Acc.nil _ _ _ _ _, by simpa [numsUp] using Acc.nil _ _ _ _ _, by simpa [numsUp] using Acc.nil _ _ _ _ _, ⟨(fun g hg => by simp [Value.ownBlock] at hg), (fun g hg => by simp [Value.ownBlock] at hg), (fun g hg => by simp [Value.ownBlock] at hg), (fun g hg => by simp [Value.ownBlock] at hg), (fun g hg => by simp [Value.ownBlock] at hg), (fun g hg => by simp [Value.ownBlock] at hg)⟩, fun g _ _ _ => rfl, hB0, HL0.out⟩
    case round =>
      clear qjt qjn hB0
      obtain ⟨k, va, vd, na, nd, hk, rfl, qt, qn, hacA, hacB, hanA, hanB, hdis, hF, hB, hlz⟩ := hrel
      have hz := hB.size
      have hs := HS.out
      have d2 := cell_blk v2 (hF.out jb (by omega) (by omega) (by omega))
      have e0_ := cell_blk z0 (hF.out jc (by omega) (by omega) (by omega))
      have e1_ := cell_blk z1 (hF.out jc (by omega) (by omega) (by omega))
      by_cases hlt : k < n
      · obtain ⟨b, off, x, rfl, hbW, hx, p0, p1, p2, p3, p4⟩ := hR.patch hlt hB
        have HX := Lib.hid hx
        have hbd := patch_bd (all_at' HALL.out hx) hw12 hh12
        clear hx
        obtain ⟨x0, x1, x2, x3, x4⟩ := x
        simp only at p0 p1 p2 p3 p4 hbd
        have hkI : (k : Int) < (n : Int) := by omega
        have hla := pA_len ⟨true, at'⟩ (ps.take k)
        have hlb := pB_len ⟨true, at'⟩ (ps.take k)
        have hlk : (ps.take k).length ≤ k := List.length_take_le _ _
        have hlc := nums_len ⟨true, at'⟩ ps true k
        have hld := nums_len ⟨true, at'⟩ ps false k
        have hWlo : W.heap.size ≤ lo := by omega
        obtain ⟨wp, hwp⟩ : ∃ v, Hid (wr.alloc (.cells #[.int .i64 x0, .int .i64 x1, .int .i64 x2, .int .i64 x3, .int .i64 x4] 44) = v) := ⟨_, rfl⟩
        obtain ⟨jp, hjp⟩ : ∃ j, Hid (wr.heap.size = j) := ⟨_, rfl⟩
        have rp : wp.heap[jp]? = some (.cells #[.int .i64 x0, .int .i64 x1, .int .i64 x2, .int .i64 x3, .int .i64 x4] 44 (0, 0)) := by rw [← hwp.out, ← hjp.out]; exact heap_alloc_new wr _
        have g0 : wp.cell? ⟨jp, 0, none⟩ = some (.int .i64 x0) := by rw [cell_of_row _ _ _ _ _ _ rp]; rfl
        have g1 : wp.cell? ⟨jp, 1, none⟩ = some (.int .i64 x1) := by rw [cell_of_row _ _ _ _ _ _ rp]; rfl
        have g2 : wp.cell? ⟨jp, 2, none⟩ = some (.int .i64 x2) := by rw [cell_of_row _ _ _ _ _ _ rp]; rfl
        have g3 : wp.cell? ⟨jp, 3, none⟩ = some (.int .i64 x3) := by rw [cell_of_row _ _ _ _ _ _ rp]; rfl
        have g4 : wp.cell? ⟨jp, 4, none⟩ = some (.int .i64 x4) := by rw [cell_of_row _ _ _ _ _ _ rp]; rfl
        have bp : Below wr.heap.size wr wp := by rw [← hwp.out]; exact (Below.refl _ _).alloc (Nat.le_refl _) _
        have sp : wp.heap.size = jp + 1 := by rw [← hwp.out, ← hjp.out]; simp
        have hjpe : wr.heap.size = jp := hjp.out
        have hBp := hB.trans (bp.mono hz)
        have hzp := hBp.size
        have u0_ := keepcell e0_ bp
        have u1_ := keepcell e1_ bp
        have HSP := Lib.hid sp
        have HRP := Lib.hid rp
        have HQT := Lib.hid qt
        have HQN := Lib.hid qn
        have HBP := Lib.hid bp
        clear hs sp hjpe rp qt qn bp
        go_wp2_with (rw [hwp.out]; (try rw [hjp.out]))
        refine (sidesI_any true at' x0 x1 x2 x3 x4 _ (by omega) (by omega) (by omega) (by omega) (by omega) (by omega) (by omega) (by omega)).mono ?_
        rintro e w5 ⟨rfl, hb5⟩
        have hs := HS.out
        have sp := HSP.out
        have hjpe := hjp.out
        have bp := HBP.out
        have g0 := keepcell g0 hb5
        have g1 := keepcell g1 hb5
        have g2 := keepcell g2 hb5
        have g3 := keepcell g3 hb5
        have g4 := keepcell g4 hb5
        have u0_ := keepcell u0_ hb5
        have u1_ := keepcell u1_ hb5
        have b5 := bp.trans (hb5.mono (by omega))
        have r5p := (hb5.block jp (by omega)).trans HRP.out
        have hB5 := hBp.trans (hb5.mono hzp)
        have q5t := (b5.block jt (by omega)).trans HQT.out
        have q5n := (b5.block jn (by omega)).trans HQN.out
        have hq5 : ∀ g, g < jp → w5.heap[g]? = wr.heap[g]? := fun g hg => b5.block g (by omega)
        have hacA5 := hacA.below b5
        have hacB5 := hacB.below b5
        have hanA5 := hanA.below b5
        have hanB5 := hanB.below b5
        have z5 : jp < w5.heap.size := by have := hb5.size; omega
        have lz5 : lo ≤ w5.heap.size := by omega
        clear bp hb5 b5
        by_cases y9 : at' ≤ x0
        · have hbf : before ⟨true, at'⟩ ⟨x0, x1, x2, x3, x4⟩ = false := (decide_eq_false (show ¬ x0 < at' by omega) : decide (x0 < at') = false)
          have HBF := Lib.hid hbf
          rw [hbf]
          clear hbf
          obtain ⟨wq, hwq⟩ : ∃ v, Hid (w5.setCell ⟨jp, 0, none⟩ (.int .i64 (x0 - at')) = v) := ⟨_, rfl⟩
          have fg : w5.frozen? ⟨jp, 0, none⟩ = false := frozen_of_row _ _ _ _ _ r5p
          have rq := row_set (o := 0) (.int .i64 (x0 - at')) r5p
          have hqq : ∀ g, g < jp → wq.heap[g]? = w5.heap[g]? := fun g hg => by rw [← hwq.out, row_far _ (by omega)]
          have hqA := acc_new hacA hacA5 (Nat.le_of_eq hjpe) (o := 0) (.int .i64 (x0 - at'))
          have hqB := acc_new hacB hacB5 (Nat.le_of_eq hjpe) (o := 0) (.int .i64 (x0 - at'))
          have hqC := acc_new hanA hanA5 (Nat.le_of_eq hjpe) (o := 0) (.int .i64 (x0 - at'))
          have hqD := acc_new hanB hanB5 (Nat.le_of_eq hjpe) (o := 0) (.int .i64 (x0 - at'))
          have hBq := below_set hB5 (show W.heap.size ≤ jp by omega) (o := 0) (.int .i64 (x0 - at'))
          have sq : w5.heap.size = wq.heap.size := by rw [← hwq.out, set_size]
          rw [hwq.out] at rq hqA hqB hqC hqD hBq
          have hsub : IntKind.i64.wrap (x0 - at') = x0 - at' := by simp (disch := omega) only [IntWalk.i64_in]
          have y0 : wq.cell? ⟨jp, 0, none⟩ = some (.int .i64 (x0 - at')) := by rw [cell_of_row _ _ _ _ _ _ rq]; rfl
          have y1 : wq.cell? ⟨jp, 1, none⟩ = some (.int .i64 x1) := by rw [cell_of_row _ _ _ _ _ _ rq]; rfl
          have y2 : wq.cell? ⟨jp, 2, none⟩ = some (.int .i64 x2) := by rw [cell_of_row _ _ _ _ _ _ rq]; rfl
          have y3 : wq.cell? ⟨jp, 3, none⟩ = some (.int .i64 x3) := by rw [cell_of_row _ _ _ _ _ _ rq]; rfl
          have y4 : wq.cell? ⟨jp, 4, none⟩ = some (.int .i64 x4) := by rw [cell_of_row _ _ _ _ _ _ rq]; rfl
          have qqt := (hqq jt (by omega)).trans q5t
          have qqn := (hqq jn (by omega)).trans q5n
          have ct : wq.cell? ⟨jt, 5, none⟩ = some vd := by rw [cell_of_row _ _ _ _ _ _ qqt]; rfl
          have hjt7 : jt < lo := by omega
          have hjn7 : jn < lo := by omega
          have hloq : lo ≤ wq.heap.size := by omega
          have hjq : jp < wq.heap.size := by omega
          have hjtq : jt < wq.heap.size := by omega
          have hln : (partB ⟨true, at'⟩ (ps.take k)).length + 1 ≤ 4294967296 := by omega
          have hln2 : (numsUp ⟨true, at'⟩ ps false k).length + 1 ≤ 4294967296 := by omega
          have HSQ := Lib.hid sq
          clear hs sp hjpe sq q5t q5n r5p
          have HQQT := Lib.hid qqt
          have HQQN := Lib.hid qqn
          have HRQ := Lib.hid rq
          clear qqt qqn rq
          go_wp2_with rw [hwq.out]
          go_region_law (refine step_acc1 rfl _ _ 28 rfl lo 44 (.agg #[.int .i64 0, .int .i64 0, .int .i64 0, .int .i64 0, .int .i64 0]) 5 40 Try.underlying28 infoPatch rfl (by omega) vd _ patchC ⟨(x0 - at'), x1, x2, x3, x4⟩ (by simp [Act.eval, Act.put]) ((hqB.drew).alloc _) _ _ _ _ (heap_alloc_new _ _) rfl (by simp [Act.eval, Act.put]) rfl (by simp [patchC, Value.oneCell']) hln (by omega) (by simp [World.drew]; omega) _ rfl ?_; intro v7 w7 hacc7 hgrow7 hat7 hk7; have hch7 : ∀ g, g < lo → w7.heap[g]? = wq.heap[g]? := fun g hg => (hgrow7.block g (Nat.lt_of_lt_of_le (show g < wq.heap.size by omega) ((Below.refl _ _).alloc (Nat.le_refl _) _ : Below (World.drew wq).heap.size (World.drew wq) _).size) (fun e => by have := (hqB.row e.symm).1; omega)).trans (Below.heap_alloc _ _ g (show g < wq.heap.size by omega)); have f7 : w7.frozen? ⟨jt, 5, none⟩ = false := frozen_of_row _ _ _ _ _ ((hch7 jt hjt7).trans HQQT.out); have c7 := cell_blk ct (hch7 jt hjt7); obtain ⟨A7, c7', e8, _, _⟩ := hacc7.own patchC_len; obtain ⟨L7, e7⟩ : ∃ L : Nat, v7 = .slice A7 L c7' := ⟨_, e8⟩; have E7 := Lib.hid e7; rw [e7]; clear e7 e8)
          all_goals
            have hs := HS.out
            have sq := HSQ.out
            have hjpe := hjp.out
            have sp := HSP.out
            obtain ⟨h1, h2, h3, h4, h5, h6⟩ := hdis
            have hcs7 := hgrow7.size
            have hqsz : wq.heap.size ≤ w7.heap.size := Nat.le_trans ((Below.refl _ _).alloc (Nat.le_refl _) _ : Below (World.drew wq).heap.size (World.drew wq) _).size hcs7
            obtain ⟨w8, hw8⟩ : ∃ v, Hid (w7.setCell ⟨jt, 5, none⟩ (.slice A7 L7 c7') = v) := ⟨_, rfl⟩
            rw [hw8.out]
            have hqA_ := ((hqA.drew).alloc _).kept hgrow7 (fun g hg => h1 g hg)
            have hqA8 := acc_low hqA_ hjt7 (o := 5) (.slice A7 L7 c7')
            have hqC_ := ((hqC.drew).alloc _).kept hgrow7 (fun g hg => h4.symm g hg)
            have hqC8 := acc_low hqC_ hjt7 (o := 5) (.slice A7 L7 c7')
            have hqD_ := ((hqD.drew).alloc _).kept hgrow7 (fun g hg => h5.symm g hg)
            have hqD8 := acc_low hqD_ hjt7 (o := 5) (.slice A7 L7 c7')
            have hmain8 := acc_low hacc7 hjt7 (o := 5) (.slice A7 L7 c7')
            have hB7 := ((hqB.drew).alloc _).grow_below ((hBq.drew).alloc hBq.drew.size _) hgrow7 hWlo ((hBq.drew).alloc hBq.drew.size _).size
            have hB8 := below_set hB7 (show W.heap.size ≤ jt by omega) (o := 5) (.slice A7 L7 c7')
            have q8t := row_set (o := 5) (.slice A7 L7 c7') ((hch7 jt hjt7).trans HQQT.out)
            have q8n := (row_far (w := w7) (b := jt) (o := 5) (.slice A7 L7 c7') (show jn ≠ jt by omega)).trans ((hch7 jn hjn7).trans HQQN.out)
            have hch8 : ∀ g, g < lo → g ≠ jt → (w7.setCell ⟨jt, 5, none⟩ (.slice A7 L7 c7')).heap[g]? = wq.heap[g]? := fun g hg hne => (row_far _ hne).trans (hch7 g hg)
            have sz8 : lo ≤ (w7.setCell ⟨jt, 5, none⟩ (.slice A7 L7 c7')).heap.size := by rw [set_size]; omega
            have sw8 : wq.heap.size ≤ (w7.setCell ⟨jt, 5, none⟩ (.slice A7 L7 c7')).heap.size := by rw [set_size]; omega
            rw [hw8.out] at hqA8 hqC8 hqD8 hmain8 hB8 q8t q8n hch8 sz8 sw8
            have hrow : ∀ (q : Value) (m : Nat) (e : TypeId) (sz : Nat) (α : Type) (xs : List α) (cells : α → List Value), Acc wq lo e sz q xs cells → ∀ g, q.ownBlock = some g → g < ((World.drew wq).alloc (.cells #[.int .i64 (x0 - at'), .int .i64 x1, .int .i64 x2, .int .i64 x3, .int .i64 x4] 44)).heap.size := fun q m e sz α xs cells hh g hg => Nat.lt_of_lt_of_le (hh.row hg).2 ((Below.refl _ _).alloc (Nat.le_refl _) _ : Below (World.drew wq).heap.size (World.drew wq) _).size
            have m1 := h1.right hat7 (hrow va 0 _ _ _ _ _ hqA)
            have m4 := h4.left hat7 (hrow na 0 _ _ _ _ _ hqC)
            have m5 := h5.left hat7 (hrow nd 0 _ _ _ _ _ hqD)
            have m2 := h2
            have m3 := h3
            have m6 := h6
            have cn : w8.cell? ⟨jn, 1, none⟩ = some nd := by rw [cell_of_row _ _ _ _ _ _ q8n]; rfl
            have HQ8T := Lib.hid q8t
            have HQ8N := Lib.hid q8n
            clear hs sq hjpe sp q8t q8n hrow h1 h2 h3 h4 h5 h6 hqsz hcs7
            go_wp2_with (at_builtin; refine wpList_acc1 rfl _ _ 42 rfl lo 3 (.int .i64 0) 1 8 Try.underlying42 infoIntA rfl (by omega) _ _ intC (k : Int) rfl hqD8 _ _ rfl _ rfl (by simp) rfl (by simp [intC, Value.oneCell']) hln2 (by omega) sz8 ?_; intro v9 w9 hacc9 hgrow9 hat9; have hch9 : ∀ g, g < lo → w9.heap[g]? = w8.heap[g]? := fun g hg => hgrow9.block g (by omega) (fun e => by have := (hqD8.row e.symm).1; omega); have f9 : w9.frozen? ⟨jn, 1, none⟩ = false := frozen_of_row _ _ _ _ _ ((hch9 jn hjn7).trans HQ8N.out); have c9 := cell_blk cn (hch9 jn hjn7); obtain ⟨A9, c9', e8, _, _⟩ := hacc9.own (fun _ => rfl); obtain ⟨L9, e9⟩ : ∃ L : Nat, v9 = .slice A9 L c9' := ⟨_, e8⟩; have E9 := Lib.hid e9; rw [e9]; clear e9 e8)
            go_roundw
            case rel =>
              rw [← E9.out]
              have hs := HS.out
              have hqA89 := acc_low (hqA8.kept hgrow9 (fun g hg => m3 g hg)) hjn7 (o := 1) v9
              have hmain89 := acc_low (hmain8.kept hgrow9 (fun g hg => m5 g hg)) hjn7 (o := 1) v9
              have hqC89 := acc_low (hqC8.kept hgrow9 (fun g hg => m6 g hg)) hjn7 (o := 1) v9
              have hnum9 := acc_low hacc9 hjn7 (o := 1) v9
              have hrw : ∀ (q : Value) (e : TypeId) (sz : Nat) (α : Type) (xs : List α) (cells : α → List Value), Acc w8 lo e sz q xs cells → ∀ g, q.ownBlock = some g → g < w8.heap.size + 1 := fun q e sz α xs cells hh g hg => by have := (hh.row hg).2; omega
              have m3' := m3.right hat9 (hrw va _ _ _ _ _ hqA8)
              have m5' := m5.right hat9 (hrw v7 _ _ _ _ _ hmain8)
              have m6' := m6.right hat9 (hrw na _ _ _ _ _ hqC8)
              have q9t := (row_far (w := w9) (b := jn) (o := 1) v9 (show jt ≠ jn by omega)).trans ((hch9 jt hjt7).trans HQ8T.out)
              have q9n := row_set (o := 1) v9 ((hch9 jn hjn7).trans HQ8N.out)
              rw [← E7.out] at q9t
              have hB9 := below_set (hqD8.grow_below hB8 hgrow9 hWlo hB8.size) (show W.heap.size ≤ jn by omega) (o := 1) v9
              have hkeep : ∀ g, g < lo → g ≠ jt → g ≠ jn → (w9.setCell ⟨jn, 1, none⟩ v9).heap[g]? = w0.heap[g]? := fun g g1 g2 g3 => by rw [row_far _ g3]; exact (hch9 g g1).trans ((hch8 g g1 g2).trans ((hqq g (by have := hjp.out; omega)).trans ((hq5 g (by have := hjp.out; omega)).trans (hF.out g g1 g2 g3))))
              exact ⟨k + 1, va, v7, na, v9, by omega, by go_num, q9t, q9n, by rw [← pA_no HX.out HBF.out]; exact hqA89, by rw [← pB_yes HX.out HBF.out]; exact hmain89, by rw [← nums_no HX.out (first := true) HBF.out]; exact hqC89, by rw [← nums_yes HX.out HBF.out]; exact hnum9, ⟨m1, m2, m3', m4, m5', m6'⟩, hkeep, hB9, by rw [set_size]; exact Nat.le_trans sz8 hgrow9.size⟩
            case measure => simp [intOf]; omega
        · have hbf : before ⟨true, at'⟩ ⟨x0, x1, x2, x3, x4⟩ = true := (decide_eq_true (show x0 < at' by omega) : decide (x0 < at') = true)
          have HBF := Lib.hid hbf
          rw [hbf]
          clear hbf
          obtain ⟨wq, hwq⟩ : ∃ v, Hid (w5 = v) := ⟨_, rfl⟩
          have rq := r5p
          have hqq : ∀ g, g < jp → wq.heap[g]? = w5.heap[g]? := fun g hg => by rw [← hwq.out]
          have hqA := hacA5
          have hqB := hacB5
          have hqC := hanA5
          have hqD := hanB5
          have hBq := hB5
          rw [hwq.out] at rq hqA hqB hqC hqD hBq z5 lz5 g0 g1 g2 g3 g4 u0_ u1_ ⊢
          have sq : w5.heap.size = wq.heap.size := by rw [← hwq.out]
          have y0 : wq.cell? ⟨jp, 0, none⟩ = some (.int .i64 x0) := by rw [cell_of_row _ _ _ _ _ _ rq]; rfl
          have y1 : wq.cell? ⟨jp, 1, none⟩ = some (.int .i64 x1) := by rw [cell_of_row _ _ _ _ _ _ rq]; rfl
          have y2 : wq.cell? ⟨jp, 2, none⟩ = some (.int .i64 x2) := by rw [cell_of_row _ _ _ _ _ _ rq]; rfl
          have y3 : wq.cell? ⟨jp, 3, none⟩ = some (.int .i64 x3) := by rw [cell_of_row _ _ _ _ _ _ rq]; rfl
          have y4 : wq.cell? ⟨jp, 4, none⟩ = some (.int .i64 x4) := by rw [cell_of_row _ _ _ _ _ _ rq]; rfl
          have qqt := (hqq jt (by omega)).trans q5t
          have qqn := (hqq jn (by omega)).trans q5n
          have ct : wq.cell? ⟨jt, 2, none⟩ = some va := by rw [cell_of_row _ _ _ _ _ _ qqt]; rfl
          have hjt7 : jt < lo := by omega
          have hjn7 : jn < lo := by omega
          have hloq : lo ≤ wq.heap.size := by omega
          have hjq : jp < wq.heap.size := by omega
          have hjtq : jt < wq.heap.size := by omega
          have hln : (partA ⟨true, at'⟩ (ps.take k)).length + 1 ≤ 4294967296 := by omega
          have hln2 : (numsUp ⟨true, at'⟩ ps true k).length + 1 ≤ 4294967296 := by omega
          have HSQ := Lib.hid sq
          clear hs sp hjpe sq q5t q5n r5p
          have HQQT := Lib.hid qqt
          have HQQN := Lib.hid qqn
          have HRQ := Lib.hid rq
          clear qqt qqn rq
          go_wp2_with fail
          go_region_law (refine step_acc1 rfl _ _ 28 rfl lo 44 (.agg #[.int .i64 0, .int .i64 0, .int .i64 0, .int .i64 0, .int .i64 0]) 5 40 Try.underlying28 infoPatch rfl (by omega) va _ patchC ⟨x0, x1, x2, x3, x4⟩ (by simp [Act.eval, Act.put]) ((hqA.drew).alloc _) _ _ _ _ (heap_alloc_new _ _) rfl (by simp [Act.eval, Act.put]) rfl (by simp [patchC, Value.oneCell']) hln (by omega) (by simp [World.drew]; omega) _ rfl ?_; intro v7 w7 hacc7 hgrow7 hat7 hk7; have hch7 : ∀ g, g < lo → w7.heap[g]? = wq.heap[g]? := fun g hg => (hgrow7.block g (Nat.lt_of_lt_of_le (show g < wq.heap.size by omega) ((Below.refl _ _).alloc (Nat.le_refl _) _ : Below (World.drew wq).heap.size (World.drew wq) _).size) (fun e => by have := (hqA.row e.symm).1; omega)).trans (Below.heap_alloc _ _ g (show g < wq.heap.size by omega)); have f7 : w7.frozen? ⟨jt, 2, none⟩ = false := frozen_of_row _ _ _ _ _ ((hch7 jt hjt7).trans HQQT.out); have c7 := cell_blk ct (hch7 jt hjt7); obtain ⟨A7, c7', e8, _, _⟩ := hacc7.own patchC_len; obtain ⟨L7, e7⟩ : ∃ L : Nat, v7 = .slice A7 L c7' := ⟨_, e8⟩; have E7 := Lib.hid e7; rw [e7]; clear e7 e8)
          all_goals
            have hs := HS.out
            have sq := HSQ.out
            have hjpe := hjp.out
            have sp := HSP.out
            obtain ⟨h1, h2, h3, h4, h5, h6⟩ := hdis
            have hcs7 := hgrow7.size
            have hqsz : wq.heap.size ≤ w7.heap.size := Nat.le_trans ((Below.refl _ _).alloc (Nat.le_refl _) _ : Below (World.drew wq).heap.size (World.drew wq) _).size hcs7
            obtain ⟨w8, hw8⟩ : ∃ v, Hid (w7.setCell ⟨jt, 2, none⟩ (.slice A7 L7 c7') = v) := ⟨_, rfl⟩
            rw [hw8.out]
            have hqB_ := ((hqB.drew).alloc _).kept hgrow7 (fun g hg => h1.symm g hg)
            have hqB8 := acc_low hqB_ hjt7 (o := 2) (.slice A7 L7 c7')
            have hqC_ := ((hqC.drew).alloc _).kept hgrow7 (fun g hg => h2.symm g hg)
            have hqC8 := acc_low hqC_ hjt7 (o := 2) (.slice A7 L7 c7')
            have hqD_ := ((hqD.drew).alloc _).kept hgrow7 (fun g hg => h3.symm g hg)
            have hqD8 := acc_low hqD_ hjt7 (o := 2) (.slice A7 L7 c7')
            have hmain8 := acc_low hacc7 hjt7 (o := 2) (.slice A7 L7 c7')
            have hB7 := ((hqA.drew).alloc _).grow_below ((hBq.drew).alloc hBq.drew.size _) hgrow7 hWlo ((hBq.drew).alloc hBq.drew.size _).size
            have hB8 := below_set hB7 (show W.heap.size ≤ jt by omega) (o := 2) (.slice A7 L7 c7')
            have q8t := row_set (o := 2) (.slice A7 L7 c7') ((hch7 jt hjt7).trans HQQT.out)
            have q8n := (row_far (w := w7) (b := jt) (o := 2) (.slice A7 L7 c7') (show jn ≠ jt by omega)).trans ((hch7 jn hjn7).trans HQQN.out)
            have hch8 : ∀ g, g < lo → g ≠ jt → (w7.setCell ⟨jt, 2, none⟩ (.slice A7 L7 c7')).heap[g]? = wq.heap[g]? := fun g hg hne => (row_far _ hne).trans (hch7 g hg)
            have sz8 : lo ≤ (w7.setCell ⟨jt, 2, none⟩ (.slice A7 L7 c7')).heap.size := by rw [set_size]; omega
            have sw8 : wq.heap.size ≤ (w7.setCell ⟨jt, 2, none⟩ (.slice A7 L7 c7')).heap.size := by rw [set_size]; omega
            rw [hw8.out] at hqB8 hqC8 hqD8 hmain8 hB8 q8t q8n hch8 sz8 sw8
            have hrow : ∀ (q : Value) (m : Nat) (e : TypeId) (sz : Nat) (α : Type) (xs : List α) (cells : α → List Value), Acc wq lo e sz q xs cells → ∀ g, q.ownBlock = some g → g < ((World.drew wq).alloc (.cells #[.int .i64 x0, .int .i64 x1, .int .i64 x2, .int .i64 x3, .int .i64 x4] 44)).heap.size := fun q m e sz α xs cells hh g hg => Nat.lt_of_lt_of_le (hh.row hg).2 ((Below.refl _ _).alloc (Nat.le_refl _) _ : Below (World.drew wq).heap.size (World.drew wq) _).size
            have m1 := h1.left hat7 (hrow vd 0 _ _ _ _ _ hqB)
            have m2 := h2.left hat7 (hrow na 0 _ _ _ _ _ hqC)
            have m3 := h3.left hat7 (hrow nd 0 _ _ _ _ _ hqD)
            have m4 := h4
            have m5 := h5
            have m6 := h6
            have cn : w8.cell? ⟨jn, 0, none⟩ = some na := by rw [cell_of_row _ _ _ _ _ _ q8n]; rfl
            have HQ8T := Lib.hid q8t
            have HQ8N := Lib.hid q8n
            clear hs sq hjpe sp q8t q8n hrow h1 h2 h3 h4 h5 h6 hqsz hcs7
            go_wp2_with (at_builtin; refine wpList_acc1 rfl _ _ 42 rfl lo 3 (.int .i64 0) 1 8 Try.underlying42 infoIntA rfl (by omega) _ _ intC (k : Int) rfl hqC8 _ _ rfl _ rfl (by simp) rfl (by simp [intC, Value.oneCell']) hln2 (by omega) sz8 ?_; intro v9 w9 hacc9 hgrow9 hat9; have hch9 : ∀ g, g < lo → w9.heap[g]? = w8.heap[g]? := fun g hg => hgrow9.block g (by omega) (fun e => by have := (hqC8.row e.symm).1; omega); have f9 : w9.frozen? ⟨jn, 0, none⟩ = false := frozen_of_row _ _ _ _ _ ((hch9 jn hjn7).trans HQ8N.out); have c9 := cell_blk cn (hch9 jn hjn7); obtain ⟨A9, c9', e8, _, _⟩ := hacc9.own (fun _ => rfl); obtain ⟨L9, e9⟩ : ∃ L : Nat, v9 = .slice A9 L c9' := ⟨_, e8⟩; have E9 := Lib.hid e9; rw [e9]; clear e9 e8)
            go_roundw
            case rel =>
              rw [← E9.out]
              have hs := HS.out
              have hmain89 := acc_low (hmain8.kept hgrow9 (fun g hg => m2 g hg)) hjn7 (o := 0) v9
              have hqB89 := acc_low (hqB8.kept hgrow9 (fun g hg => m4 g hg)) hjn7 (o := 0) v9
              have hqD89 := acc_low (hqD8.kept hgrow9 (fun g hg => m6.symm g hg)) hjn7 (o := 0) v9
              have hnum9 := acc_low hacc9 hjn7 (o := 0) v9
              have hrw : ∀ (q : Value) (e : TypeId) (sz : Nat) (α : Type) (xs : List α) (cells : α → List Value), Acc w8 lo e sz q xs cells → ∀ g, q.ownBlock = some g → g < w8.heap.size + 1 := fun q e sz α xs cells hh g hg => by have := (hh.row hg).2; omega
              have m2' := m2.right hat9 (hrw v7 _ _ _ _ _ hmain8)
              have m4' := m4.right hat9 (hrw vd _ _ _ _ _ hqB8)
              have m6' := m6.left hat9 (hrw nd _ _ _ _ _ hqD8)
              have q9t := (row_far (w := w9) (b := jn) (o := 0) v9 (show jt ≠ jn by omega)).trans ((hch9 jt hjt7).trans HQ8T.out)
              have q9n := row_set (o := 0) v9 ((hch9 jn hjn7).trans HQ8N.out)
              rw [← E7.out] at q9t
              have hB9 := below_set (hqC8.grow_below hB8 hgrow9 hWlo hB8.size) (show W.heap.size ≤ jn by omega) (o := 0) v9
              have hkeep : ∀ g, g < lo → g ≠ jt → g ≠ jn → (w9.setCell ⟨jn, 0, none⟩ v9).heap[g]? = w0.heap[g]? := fun g g1 g2 g3 => by rw [row_far _ g3]; exact (hch9 g g1).trans ((hch8 g g1 g2).trans ((hqq g (by have := hjp.out; omega)).trans ((hq5 g (by have := hjp.out; omega)).trans (hF.out g g1 g2 g3))))
              exact ⟨k + 1, v7, vd, v9, nd, by omega, by go_num, q9t, q9n, by rw [← pA_yes HX.out HBF.out]; exact hmain89, by rw [← pB_no HX.out HBF.out]; exact hqB89, by rw [← nums_yes HX.out HBF.out]; exact hnum9, by rw [← nums_no HX.out (first := false) HBF.out]; exact hqD89, ⟨m1, m2', m3, m4', m5, m6'⟩, hkeep, hB9, by rw [set_size]; exact Nat.le_trans sz8 hgrow9.size⟩
            case measure => simp [intOf]; omega
      · obtain rfl : k = n := by omega
        rw [List.take_of_length_le (Nat.le_of_eq HLEN.out)] at hacA hacB
        obtain ⟨A1, c1, rfl, _, _⟩ := hacA.own patchC_len
        obtain ⟨A2, c2, rfl, _, _⟩ := hacB.own patchC_len
        obtain ⟨N1, d1, rfl, hd1, _⟩ := hanA.own (fun _ => rfl)
        obtain ⟨N2, d2, rfl, hd2, _⟩ := hanB.own (fun _ => rfl)
        have Z4 := (hF.out r4 (by omega) (by omega) (by omega)).trans qr4
        have Z5 := (hF.out r5 (by omega) (by omega) (by omega)).trans qr5
        have ct0 : wr.cell? ⟨jt, 0, none⟩ = some (.int .i64 at') := by rw [cell_of_row _ _ _ _ _ _ qt]; rfl
        have ct1 : wr.cell? ⟨jt, 1, none⟩ = some (.int .i64 h) := by rw [cell_of_row _ _ _ _ _ _ qt]; rfl
        have ct2 : wr.cell? ⟨jt, 2, none⟩ = some (.slice A1 (partA ⟨true, at'⟩ ps).length c1) := by rw [cell_of_row _ _ _ _ _ _ qt]; rfl
        have ct3 : wr.cell? ⟨jt, 3, none⟩ = some (.int .i64 (w - at')) := by rw [cell_of_row _ _ _ _ _ _ qt]; rfl
        have ct4 : wr.cell? ⟨jt, 4, none⟩ = some (.int .i64 h) := by rw [cell_of_row _ _ _ _ _ _ qt]; rfl
        have ct5 : wr.cell? ⟨jt, 5, none⟩ = some (.slice A2 (partB ⟨true, at'⟩ ps).length c2) := by rw [cell_of_row _ _ _ _ _ _ qt]; rfl
        have cn0 : wr.cell? ⟨jn, 0, none⟩ = some (.slice N1 (numsUp ⟨true, at'⟩ ps true k).length d1) := by rw [cell_of_row _ _ _ _ _ _ qn]; rfl
        have cn1 : wr.cell? ⟨jn, 1, none⟩ = some (.slice N2 (numsUp ⟨true, at'⟩ ps false k).length d2) := by rw [cell_of_row _ _ _ _ _ _ qn]; rfl
        have y4_0 : wr.cell? ⟨r4, 0, none⟩ = some (.int .i64 0) := by rw [cell_of_row _ _ _ _ _ _ Z4]; rfl
        have x4_0 : wr.frozen? ⟨r4, 0, none⟩ = false := frozen_of_row _ _ _ _ _ Z4
        have y4_1 : wr.cell? ⟨r4, 1, none⟩ = some (.int .i64 0) := by rw [cell_of_row _ _ _ _ _ _ Z4]; rfl
        have x4_1 : wr.frozen? ⟨r4, 1, none⟩ = false := frozen_of_row _ _ _ _ _ Z4
        have y4_2 : wr.cell? ⟨r4, 2, none⟩ = some (.slice none 0 0) := by rw [cell_of_row _ _ _ _ _ _ Z4]; rfl
        have x4_2 : wr.frozen? ⟨r4, 2, none⟩ = false := frozen_of_row _ _ _ _ _ Z4
        have y4_3 : wr.cell? ⟨r4, 3, none⟩ = some (.int .i64 0) := by rw [cell_of_row _ _ _ _ _ _ Z4]; rfl
        have x4_3 : wr.frozen? ⟨r4, 3, none⟩ = false := frozen_of_row _ _ _ _ _ Z4
        have y4_4 : wr.cell? ⟨r4, 4, none⟩ = some (.int .i64 0) := by rw [cell_of_row _ _ _ _ _ _ Z4]; rfl
        have x4_4 : wr.frozen? ⟨r4, 4, none⟩ = false := frozen_of_row _ _ _ _ _ Z4
        have y4_5 : wr.cell? ⟨r4, 5, none⟩ = some (.slice none 0 0) := by rw [cell_of_row _ _ _ _ _ _ Z4]; rfl
        have x4_5 : wr.frozen? ⟨r4, 5, none⟩ = false := frozen_of_row _ _ _ _ _ Z4
        have y5_0 : wr.cell? ⟨r5, 0, none⟩ = some (.slice none 0 0) := by rw [cell_of_row _ _ _ _ _ _ Z5]; rfl
        have x5_0 : wr.frozen? ⟨r5, 0, none⟩ = false := frozen_of_row _ _ _ _ _ Z5
        have y5_1 : wr.cell? ⟨r5, 1, none⟩ = some (.slice none 0 0) := by rw [cell_of_row _ _ _ _ _ _ Z5]; rfl
        have x5_1 : wr.frozen? ⟨r5, 1, none⟩ = false := frozen_of_row _ _ _ _ _ Z5
        have hr45 : ¬ r4 = r5 := by omega
        have hr54 : ¬ r5 = r4 := by omega
        have hr4jt : ¬ r4 = jt := by omega
        have hr5jt : ¬ r5 = jt := by omega
        have hr4jn : ¬ r4 = jn := by omega
        have hr5jn : ¬ r5 = jn := by omega
        have HR4 : Hid (W.heap.size ≤ r4 ∧ W.heap.size ≤ r5 ∧ r4 < lo ∧ r5 < lo ∧ W.heap.size ≤ lo) := by refine ⟨?_, ?_, ?_, ?_, ?_⟩ <;> omega
        have HhacA := Lib.hid hacA
        have HhacB := Lib.hid hacB
        have HhanA := Lib.hid hanA
        have HhanB := Lib.hid hanB
        have HhB := Lib.hid hB
        have HD := Lib.hid (And.intro hd1 hd2)
        have HDIS := Lib.hid hdis
        clear hacA hacB hanA hanB hB qt qn Z4 Z5 hdis hF e0_ e1_ hs HS hat hd1 hd2
        go_wp2
        go_region
        all_goals
          go_wp2
          refine bodyPost_ret (v := .tuple #[.agg #[.int .i64 at', .int .i64 h, .slice A1 (partA ⟨true, at'⟩ ps).length c1, .int .i64 (w - at'), .int .i64 h, .slice A2 (partB ⟨true, at'⟩ ps).length c2], .agg #[.slice N1 (numsUp ⟨true, at'⟩ ps true k).length d1, .slice N2 (numsUp ⟨true, at'⟩ ps false k).length d2]]) (by simp [results, Try.results87, go_sem, World.cell?_setCell_same', World.cell?_setCell_other, y4_0, y4_1, y4_2, y4_3, y4_4, y4_5, y5_0, y5_1, hr45, hr54]) rfl ?_
          obtain ⟨q1, q2, q3, q4, q5⟩ := HR4.out
          exact ⟨A1, _, c1, A2, _, c2, N1, _, d1, N2, _, d2, rfl, acc_own (acc_low (acc_low (acc_low (acc_low (acc_low (acc_low (acc_low (acc_low (HhacA.out) q3 _) q3 _) q3 _) q3 _) q3 _) q3 _) q4 _) q4 _).drew patchC_len q5, acc_own (acc_low (acc_low (acc_low (acc_low (acc_low (acc_low (acc_low (acc_low (HhacB.out) q3 _) q3 _) q3 _) q3 _) q3 _) q3 _) q4 _) q4 _).drew patchC_len q5, acc_own (acc_low (acc_low (acc_low (acc_low (acc_low (acc_low (acc_low (acc_low (HhanA.out) q3 _) q3 _) q3 _) q3 _) q3 _) q3 _) q4 _) q4 _).drew (fun _ => rfl) q5, acc_own (acc_low (acc_low (acc_low (acc_low (acc_low (acc_low (acc_low (acc_low (HhanB.out) q3 _) q3 _) q3 _) q3 _) q3 _) q3 _) q4 _) q4 _).drew (fun _ => rfl) q5, HD.out, (below_set (below_set (below_set (below_set (below_set (below_set (below_set (below_set (HhB.out) q1 _) q1 _) q1 _) q1 _) q1 _) q1 _) q2 _) q2 _).drew, HDIS.out⟩
theorem divI_any (w h : Int) (A : Option Addr) (n c : Nat) (ps : List Patch) (up : Bool) (at' : Int) (W : World) (hR : Rd W A n 5 ps patchC) (hN : n ≤ 1048576) (hK : isCut w h ps ⟨up, at'⟩ = true) :
    Calls Try.prog 87 #[.agg #[.int .i64 w, .int .i64 h, .slice A n c], .agg #[.bool up, .int .i64 at']] W fun e w' => ∃ A1 n1 c1 A2 n2 c2 N1 m1 d1 N2 m2 d2, e = .returned (.tuple #[.agg #[.int .i64 (wA w ⟨up, at'⟩), .int .i64 (hA h ⟨up, at'⟩), .slice A1 n1 c1, .int .i64 (wB w ⟨up, at'⟩), .int .i64 (hB h ⟨up, at'⟩), .slice A2 n2 c2], .agg #[.slice N1 m1 d1, .slice N2 m2 d2]]) ∧ Own w' W.heap.size w'.heap.size A1 n1 5 (partA ⟨up, at'⟩ ps) patchC ∧ Own w' W.heap.size w'.heap.size A2 n2 5 (partB ⟨up, at'⟩ ps) patchC ∧ Own w' W.heap.size w'.heap.size N1 m1 1 (numsUp ⟨up, at'⟩ ps true n) intC ∧ Own w' W.heap.size w'.heap.size N2 m2 1 (numsUp ⟨up, at'⟩ ps false n) intC ∧ (m1 ≤ d1 ∧ m2 ≤ d2) ∧ Below W.heap.size W w':= by
  refine (divI_dis w h A n c ps up at' W hR hN hK).mono ?_
  rintro e w' ⟨A1, n1, c1, A2, n2, c2, N1, m1, d1, N2, m2, d2, rfl, h1, h2, h3, h4, h5, h6, _⟩
  exact ⟨A1, n1, c1, A2, n2, c2, N1, m1, d1, N2, m2, d2, rfl, h1, h2, h3, h4, h5, h6⟩


end Go.Proofs.Ytmjdgplkcocgmaa
