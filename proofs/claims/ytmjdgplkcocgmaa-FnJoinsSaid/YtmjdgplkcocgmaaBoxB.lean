/-
  Contracts over units: the reference's rectangles.
-/
import Derived.Test.YtmjdgplkcocgmaaUniB
import Derived.Test.YtmjdgplkcocgmaaZWords
set_option linter.unusedVariables false
namespace Go.Proofs.Ytmjdgplkcocgmaa
open Go.RowKit

theorem grown_set (w : World) (g o : Nat) (u : Value) : w.grownBy (w.setCell ⟨g, o, none⟩ u) (some g) := only_setRow (World.grownBy.refl _ _) o [u]
theorem fz_set (w : World) (b o : Nat) (u : Value) (a : Addr) : (w.setCell ⟨b, o, none⟩ u).frozen? a = w.frozen? a := World.frozen?_setCells b [u] o w a
theorem fz_old {w : World} {o : Obj} {n i : Nat} (h : n < w.heap.size) : (w.alloc o).frozen? ⟨n, i, none⟩ = w.frozen? ⟨n, i, none⟩ := World.frozen?_alloc_past o n i h
def BoxesOut (W : World) (out : List Patch) (e : Ending) (w' : World) : Prop :=
  ∃ A n c, e = .returned (.slice A n c) ∧ Rd w' A n 5 out patchC ∧ Below W.heap.size W w'
theorem boxes_out {W w' : World} {lo1 : Nat} {T1 : TypeId} {o : Value} {st : Sewn} {ps : List Patch} {ls : List Join} (ho : Acc w' lo1 T1 5 o st.out patchC) (hB : Below W.heap.size W w') (he : sewn ps ls = st) :
    BoxesOut W (sewn ps ls).out (.returned o) w' := by
  rw [he]
  obtain ⟨A, c, rfl, _, hO⟩ := ho.own patchC_len
  exact ⟨A, _, c, rfl, hO.rd, hB⟩

set_option maxRecDepth 100000 in
set_option maxHeartbeats 4000000 in
theorem boxes_any (w h : Int) (A : Option Addr) (n c : Nat) (ps : List Patch) (B : Option Addr) (m d : Nat) (ls : List Join) (W : World) (hR : Rd W A n 5 ps patchC) (hL : layoutOk w h ps = true) (hJ : Rd W B m 3 ls joinC) (hm : m ≤ 1048576) :
    Calls Try.prog 82 #[.agg #[.int .i64 w, .int .i64 h, .slice A n c], .slice B m d] W (BoxesOut W (sewn ps ls).out) := by
  have HLEN := Lib.hid hR.len
  have HLJ := Lib.hid hJ.len
  obtain ⟨hw, hh, hn12, hall, _, _⟩ := layout_parts hL
  rw [HLEN.out] at hn12
  have HSO := Lib.hid (sewnUp_ok (l := ls) hall)
  have HBD := Lib.hid (show w ≤ 12 ∧ h ≤ 12 from ⟨hw.2, hh.2⟩)
  have hmk := mk_eq (P := Try.prog) 106 4 (.bool false) 1 1 Try.underlying106 infoBoolR (n + m) (by omega) (by omega)
  rw [show ((n + m : Nat) : Int) = (n : Int) + (m : Int) from by omega] at hmk
  obtain ⟨jl, hjl⟩ : ∃ j, Hid (j = W.heap.size) := ⟨_, rfl⟩
  have e2 : (W.alloc (.cells #[.int .i64 w, .int .i64 h, .slice A n c] 30)).cell? ⟨W.heap.size, 2, none⟩ = some (.slice A n c) := by rw [cell_of_row _ _ _ _ _ _ (heap_alloc_new W _)]; rfl
  have hsz1 : (W.alloc (.cells #[.int .i64 w, .int .i64 h, .slice A n c] 30)).heap.size = jl + 1 := by rw [hjl.out]; simp
  have hacc0 := Acc.lit0 (W.alloc (.cells #[.int .i64 w, .int .i64 h, .slice A n c] 30)) (jl + 1) 44 5 patchC (Nat.le_of_eq hsz1.symm) rfl
  rw [show (W.alloc (.cells #[.int .i64 w, .int .i64 h, .slice A n c] 30)).heap.size = W.heap.size + 1 by simp] at hacc0
  have hlt0 : W.heap.size < jl + 1 := by have := hjl.out; omega
  have e2a := keepcell e2 ((Below.refl _ _).alloc (Nat.le_refl _) (.cells #[] 44))
  have hRa : Rd ((W.alloc (.cells #[.int .i64 w, .int .i64 h, .slice A n c] 30)).alloc (.cells #[] 44)) A n 5 ps patchC := hR.below (by (repeat (first | exact Below.refl _ _ | assumption | (refine Below.drew ?_) | (refine below_drewN ?_ _) | (refine Below.alloc ?_ (by first | exact Nat.le_refl _ | (simp; done) | (simp; omega) | omega) _) | (refine Below.setCell ?_ (by first | exact Nat.le_refl _ | (simp; done) | (simp; omega) | omega) _) | (refine Below.trans ?_ (Below.mono (by assumption) (by first | exact Nat.le_refl _ | (simp; done) | (simp; omega) | omega))))))
  have hza : jl + 1 ≤ ((W.alloc (.cells #[.int .i64 w, .int .i64 h, .slice A n c] 30)).alloc (.cells #[] 44)).heap.size := by rw [hjl.out]; simp
  have hBa : Below W.heap.size W ((W.alloc (.cells #[.int .i64 w, .int .i64 h, .slice A n c] 30)).alloc (.cells #[] 44)) := by (repeat (first | exact Below.refl _ _ | assumption | (refine Below.drew ?_) | (refine below_drewN ?_ _) | (refine Below.alloc ?_ (by first | exact Nat.le_refl _ | (simp; done) | (simp; omega) | omega) _) | (refine Below.setCell ?_ (by first | exact Nat.le_refl _ | (simp; done) | (simp; omega) | omega) _) | (refine Below.trans ?_ (Below.mono (by assumption) (by first | exact Nat.le_refl _ | (simp; done) | (simp; omega) | omega)))))
  clear hall hw hh hsz1 e2
  go_enter Try.func82, Try.ntmps82
  go_wp2_with (at_builtin; refine wpList_accsG rfl _ _ 28 rfl (jl + 1) 44 (.agg #[.int .i64 0, .int .i64 0, .int .i64 0, .int .i64 0, .int .i64 0]) 5 40 Try.underlying28 infoPatch rfl (by omega) _ [] ps patchC patchC_len patchC_one rfl hacc0 A n c rfl hRa (by simp; omega) (by omega) hza ?_; intro v2 w2 hacc2 hgrow2 hat2; have e2b := near_of hacc0 hgrow2 e2a hlt0)
  have hB2 := hacc0.grow_below hBa hgrow2 (by rw [hjl.out]; omega) (by have := hBa.size; omega)
  have hz2 := hB2.size
  have hzl2 : jl + 1 ≤ w2.heap.size := Nat.le_trans hza hgrow2.size
  have hM0 := Flags.made w2 4 (n + m)
  rw [List.nil_append] at hacc2
  obtain ⟨g, hg⟩ : ∃ g, Hid (g = w2.heap.size) := ⟨_, rfl⟩
  rw [← hg.out] at hM0
  try rw [← hg.out]
  have hacc3 := hacc2.alloc (.cells (madeCells #[Value.bool false] (n + m)) 4)
  have hB3 : Below W.heap.size W (w2.alloc (.cells (madeCells #[Value.bool false] (n + m)) 4)) := hB2.alloc hz2 _
  have hg1 : v2.ownBlock ≠ some g := fun e => by have := (hacc2.row e).2; have := hg.out; omega
  have hgW : W.heap.size ≤ g := by rw [hg.out]; exact hz2
  have hz3 : jl + 1 ≤ (w2.alloc (.cells (madeCells #[Value.bool false] (n + m)) 4)).heap.size := by simp; omega
  clear hmk
  generalize w2.alloc (.cells (madeCells #[Value.bool false] (n + m)) 4) = w3 at hacc3 hB3 hM0 hz3 ⊢
  clear hacc2 hacc0 hgrow2 hat2 hB2 hz2 hBa hza hRa e2a e2b hzl2
  go_loopw [5, 7] (fun o i wr => ∃ (k : Nat) (st : Sewn), k ≤ m ∧ i = .int .i64 (k : Int) ∧ Acc wr (jl + 1) 44 5 o st.out patchC ∧ Flags wr g st.used ∧ o.ownBlock ≠ some g ∧ Hid (sewnUp ps ls k = some st) ∧ Below W.heap.size W wr ∧ jl + 1 ≤ wr.heap.size) (fun _ i _ => m - (intOf i).toNat)
  case atStart => exact ⟨0, sewStart ps ls.length, Nat.zero_le _, rfl, hacc3, by have := hM0; rw [← HLEN.out, ← HLJ.out] at this; exact this, hg1, rfl, hB3, hz3⟩
  case round =>
    clear hacc3 hB3 hM0 hg1 hz3
    obtain ⟨k, st, hk, rfl, hacc, hF, hgo, hU, hB, hzj⟩ := hrel
    have hz := hB.size
    have hkl : k ≤ ls.length := by rw [HLJ.out]; exact hk
    have hSO := HSO.out k hkl st hU.out
    have hul := used_len k hkl st hU.out
    rw [HLEN.out, HLJ.out] at hul
    by_cases hlt : k < m
    · obtain ⟨b, off, x, rfl, hbW, hx, g0, g1, g2⟩ := hJ.join hlt hB
      have HX := Lib.hid hx
      clear hx
      obtain ⟨up, a, b2⟩ := x
      simp only at g0 g1 g2
      have hSL := hSO.len
      rw [HLEN.out] at hSL
      obtain ⟨Lp, hLp⟩ : ∃ L, Hid (L = st.out.length) := ⟨_, rfl⟩
      have hLk : Lp = n + k := by rw [hLp.out]; exact hSL
      have hLb : Lp ≤ 2097152 := by omega
      have hL1 : 1 ≤ Lp := by omega
      have hLm : Lp < n + m := by omega
      have HUL := Lib.hid hul
      have HFJ := Lib.hid (show freeJoin st ⟨up, a, b2⟩ = (within a 0 ((Lp : Int) - 1) && within b2 0 ((Lp : Int) - 1) && decide (a ≠ b2) && !st.used.getD a.toNat false && !st.used.getD b2.toNat false) by rw [hLp.out]; rfl)
      have HSTOP := Lib.hid fun (hn : sewStep st ⟨up, a, b2⟩ = none) => (show sewn ps ls = st from goL_stop HX.out hU.out hn)
      obtain ⟨A1, c1, rfl, hc1, hO⟩ := hacc.own patchC_len
      rw [← hLp.out] at hc1 hO hacc hgo ⊢
      clear hSL hLk hul
      rcases ca : within a 0 ((Lp : Int) - 1) with _ | _
      · have HN := Lib.hid (HSTOP.out (sew_no1 (by rw [HFJ.out, ca]; rfl)))
        clear hO
        go_wp2_with (go_at_call 70; refine (l01In_any _ _ _ _).mono ?_; rintro e w' ⟨rfl, rfl⟩)
        go_ret
        exact boxes_out (hacc.alloc _) (by (repeat (first | exact Below.refl _ _ | assumption | (refine Below.drew ?_) | (refine below_drewN ?_ _) | (refine Below.alloc ?_ (by first | exact Nat.le_refl _ | (simp; done) | (simp; omega) | omega) _) | (refine Below.setCell ?_ (by first | exact Nat.le_refl _ | (simp; done) | (simp; omega) | omega) _) | (refine Below.trans ?_ (Below.mono (by assumption) (by first | exact Nat.le_refl _ | (simp; done) | (simp; omega) | omega)))))) HN.out
      rcases cb : within b2 0 ((Lp : Int) - 1) with _ | _
      · have HN := Lib.hid (HSTOP.out (sew_no1 (by rw [HFJ.out, ca, cb]; rfl)))
        have hab := within_iff.1 ca
        clear hO
        go_wp2_with (go_at_call 70; refine (l01In_any _ _ _ _).mono ?_; rintro e w' ⟨rfl, rfl⟩)
        go_ret
        exact boxes_out (hacc.alloc _) (by (repeat (first | exact Below.refl _ _ | assumption | (refine Below.drew ?_) | (refine below_drewN ?_ _) | (refine Below.alloc ?_ (by first | exact Nat.le_refl _ | (simp; done) | (simp; omega) | omega) _) | (refine Below.setCell ?_ (by first | exact Nat.le_refl _ | (simp; done) | (simp; omega) | omega) _) | (refine Below.trans ?_ (Below.mono (by assumption) (by first | exact Nat.le_refl _ | (simp; done) | (simp; omega) | omega)))))) HN.out
      have hab := within_iff.1 ca
      have hbb := within_iff.1 cb
      obtain ⟨pa, rfl⟩ := Int.eq_ofNat_of_zero_le hab.1
      obtain ⟨pb, rfl⟩ := Int.eq_ofNat_of_zero_le hbb.1
      rw [Int.toNat_natCast, Int.toNat_natCast] at HFJ
      have hpa : pa < Lp := by omega
      have hpb : pb < Lp := by omega
      have hpaI : (pa : Int) < (n : Int) + (m : Int) := by omega
      have hpbI : (pb : Int) < (n : Int) + (m : Int) := by omega
      have hla := hF.cell (p := pa) (by rw [HUL.out]; omega)
      have hlb := hF.cell (p := pb) (by rw [HUL.out]; omega)
      have hglt := hF.lt
      by_cases e1 : pa = pb
      · subst e1
        have HN := Lib.hid (HSTOP.out (sew_no1 (by rw [HFJ.out, ca, decide_eq_false (by simp)]; rfl)))
        clear hO hla hlb
        go_wp2_with (go_at_call 70; refine (l01In_any _ _ _ _).mono ?_; rintro e w' ⟨rfl, rfl⟩)
        go_ret
        exact boxes_out (hacc.alloc _) (by (repeat (first | exact Below.refl _ _ | assumption | (refine Below.drew ?_) | (refine below_drewN ?_ _) | (refine Below.alloc ?_ (by first | exact Nat.le_refl _ | (simp; done) | (simp; omega) | omega) _) | (refine Below.setCell ?_ (by first | exact Nat.le_refl _ | (simp; done) | (simp; omega) | omega) _) | (refine Below.trans ?_ (Below.mono (by assumption) (by first | exact Nat.le_refl _ | (simp; done) | (simp; omega) | omega)))))) HN.out
      have e1' : ((pa : Int) == (pb : Int)) = false := by rw [beq_eq_false_iff_ne]; omega
      have e2' : decide ((pa : Int) ≠ (pb : Int)) = true := decide_eq_true (by omega)
      rw [ca, cb, e2'] at HFJ
      clear e2'
      rcases ha : st.used.getD pa false with _ | _
      · rcases hb : st.used.getD pb false with _ | _
        · rw [ha] at hla
          rw [hb] at hlb
          have HFR := Lib.hid (show freeJoin st ⟨up, pa, pb⟩ = true by rw [HFJ.out, ha, hb]; rfl)
          clear HFJ
          have hPA := pAt_in hSO (u := (pa : Int)) (by omega) (by rw [← hLp.out]; omega)
          have hPB := pAt_in hSO (u := (pb : Int)) (by omega) (by rw [← hLp.out]; omega)
          rw [Int.toNat_natCast] at hPA hPB
          obtain ⟨hPA, hIA⟩ := hPA
          obtain ⟨hPB, hIB⟩ := hPB
          obtain ⟨ga, cga, ev, hgl, hgw, hcA, _⟩ := hacc.cells_at patchC_len hPA
          obtain ⟨gb, cgb, ev2, _, _, hcB, _⟩ := hacc.cells_at patchC_len hPB
          injection ev with ev1 ev3 ev4
          subst ev1
          injection ev2 with ev5 ev6 ev7
          injection ev5 with ev5
          injection ev5 with ev5 _ _
          subst ev5
          clear ev3 ev4 ev6 ev7 hO
          obtain ⟨PA, hPAe⟩ : ∃ P, Hid (P = pAt st.out (pa : Int)) := ⟨_, rfl⟩
          obtain ⟨PB, hPBe⟩ : ∃ P, Hid (P = pAt st.out (pb : Int)) := ⟨_, rfl⟩
          rw [← hPAe.out] at hcA hIA
          rw [← hPBe.out] at hcB hIB
          have HYES := Lib.hid fun (hf : fitJoin ⟨up, pa, pb⟩ PA PB = true) => (show sewStep st ⟨up, pa, pb⟩ = some ⟨st.out ++ [boxOf ⟨up, pa, pb⟩ PA PB], st.seams ++ [seamOf ⟨up, pa, pb⟩ PA], (st.used.set pa true).set pb true⟩ by
            have := sew_yes (s := st) (j := ⟨up, pa, pb⟩) HFR.out (by rw [← hPAe.out, ← hPBe.out]; exact hf)
            rw [← hPAe.out, ← hPBe.out] at this
            exact this)
          have HNO := Lib.hid fun (hf : fitJoin ⟨up, pa, pb⟩ PA PB = false) => (show sewn ps ls = st from HSTOP.out (sew_no2 (by rw [← hPAe.out, ← hPBe.out]; exact hf)))
          obtain ⟨x, y, p, q, r⟩ := PA
          obtain ⟨x', y', p', q', r'⟩ := PB
          unfold inBox at hIA hIB
          simp only at hIA hIB
          have hbd := HBD.out
          have pc0_0 := hcA 0 _ rfl
          have pc0_1 := hcA 1 _ rfl
          have pc0_2 := hcA 2 _ rfl
          have pc0_3 := hcA 3 _ rfl
          have pc0_4 := hcA 4 _ rfl
          rw [Nat.add_zero] at pc0_0
          have pc1_0 := hcB 0 _ rfl
          have pc1_1 := hcB 1 _ rfl
          have pc1_2 := hcB 2 _ rfl
          have pc1_3 := hcB 3 _ rfl
          have pc1_4 := hcB 4 _ rfl
          rw [Nat.add_zero] at pc1_0
          have hpq : ¬ pa = pb := e1
          clear hcA hcB hPA hPB e1
          have hng : g < wr.heap.size := hglt
          have hga1 : ¬ ga = g := fun e => hgo (by rw [e]; rfl)
          obtain ⟨w1, hw1⟩ : ∃ v, Hid (wr.alloc (.cells #[.bool up, .int .i64 (pa : Int), .int .i64 (pb : Int)] 76) = v) := ⟨_, rfl⟩
          have b1 : Below wr.heap.size wr w1 := by rw [← hw1.out]; exact (Below.refl _ _).alloc (Nat.le_refl _) _
          have s1 : w1.heap.size = wr.heap.size + 1 := by rw [← hw1.out]; simp
          have n0_1 : w1.cell? ⟨wr.heap.size, 0, none⟩ = some (.bool up) := by rw [← hw1.out, cell_of_row _ _ _ _ _ _ (heap_alloc_new wr _)]; rfl
          have n1_1 : w1.cell? ⟨wr.heap.size, 1, none⟩ = some (.int .i64 (pa : Int)) := by rw [← hw1.out, cell_of_row _ _ _ _ _ _ (heap_alloc_new wr _)]; rfl
          have n2_1 : w1.cell? ⟨wr.heap.size, 2, none⟩ = some (.int .i64 (pb : Int)) := by rw [← hw1.out, cell_of_row _ _ _ _ _ _ (heap_alloc_new wr _)]; rfl
          have hla1 := keepcell hla b1
          have hlb1 := keepcell hlb b1
          have p00_1 := keepcell pc0_0 b1
          have p01_1 := keepcell pc0_1 b1
          have p02_1 := keepcell pc0_2 b1
          have p03_1 := keepcell pc0_3 b1
          have p04_1 := keepcell pc0_4 b1
          have p10_1 := keepcell pc1_0 b1
          have p11_1 := keepcell pc1_1 b1
          have p12_1 := keepcell pc1_2 b1
          have p13_1 := keepcell pc1_3 b1
          have p14_1 := keepcell pc1_4 b1
          have hacc1 := hacc.below b1
          have hF1 := hF.below b1
          have hB1 := hB.trans (b1.mono hz)
          have hz1 := hB1.size
          obtain ⟨w2, hw2⟩ : ∃ v, Hid (w1.alloc (.cells #[.int .i64 x, .int .i64 y, .int .i64 p, .int .i64 q, .int .i64 r] 44) = v) := ⟨_, rfl⟩
          have b2 : Below w1.heap.size w1 w2 := by rw [← hw2.out]; exact (Below.refl _ _).alloc (Nat.le_refl _) _
          have s2 : w2.heap.size = w1.heap.size + 1 := by rw [← hw2.out]; simp
          have a0_2 : w2.cell? ⟨w1.heap.size, 0, none⟩ = some (.int .i64 x) := by rw [← hw2.out, cell_of_row _ _ _ _ _ _ (heap_alloc_new w1 _)]; rfl
          have a1_2 : w2.cell? ⟨w1.heap.size, 1, none⟩ = some (.int .i64 y) := by rw [← hw2.out, cell_of_row _ _ _ _ _ _ (heap_alloc_new w1 _)]; rfl
          have a2_2 : w2.cell? ⟨w1.heap.size, 2, none⟩ = some (.int .i64 p) := by rw [← hw2.out, cell_of_row _ _ _ _ _ _ (heap_alloc_new w1 _)]; rfl
          have a3_2 : w2.cell? ⟨w1.heap.size, 3, none⟩ = some (.int .i64 q) := by rw [← hw2.out, cell_of_row _ _ _ _ _ _ (heap_alloc_new w1 _)]; rfl
          have a4_2 : w2.cell? ⟨w1.heap.size, 4, none⟩ = some (.int .i64 r) := by rw [← hw2.out, cell_of_row _ _ _ _ _ _ (heap_alloc_new w1 _)]; rfl
          have n0_2 := keepcell n0_1 b2
          have n1_2 := keepcell n1_1 b2
          have n2_2 := keepcell n2_1 b2
          have p10_2 := keepcell p10_1 b2
          have p11_2 := keepcell p11_1 b2
          have p12_2 := keepcell p12_1 b2
          have p13_2 := keepcell p13_1 b2
          have p14_2 := keepcell p14_1 b2
          have hacc2 := hacc1.below b2
          have hF2 := hF1.below b2
          have hB2 := hB1.trans (b2.mono hz1)
          have hz2 := hB2.size
          obtain ⟨w3, hw3⟩ : ∃ v, Hid (w2.alloc (.cells #[.int .i64 x', .int .i64 y', .int .i64 p', .int .i64 q', .int .i64 r'] 44) = v) := ⟨_, rfl⟩
          have b3 : Below w2.heap.size w2 w3 := by rw [← hw3.out]; exact (Below.refl _ _).alloc (Nat.le_refl _) _
          have s3 : w3.heap.size = w2.heap.size + 1 := by rw [← hw3.out]; simp
          have c0_3 : w3.cell? ⟨w2.heap.size, 0, none⟩ = some (.int .i64 x') := by rw [← hw3.out, cell_of_row _ _ _ _ _ _ (heap_alloc_new w2 _)]; rfl
          have c1_3 : w3.cell? ⟨w2.heap.size, 1, none⟩ = some (.int .i64 y') := by rw [← hw3.out, cell_of_row _ _ _ _ _ _ (heap_alloc_new w2 _)]; rfl
          have c2_3 : w3.cell? ⟨w2.heap.size, 2, none⟩ = some (.int .i64 p') := by rw [← hw3.out, cell_of_row _ _ _ _ _ _ (heap_alloc_new w2 _)]; rfl
          have c3_3 : w3.cell? ⟨w2.heap.size, 3, none⟩ = some (.int .i64 q') := by rw [← hw3.out, cell_of_row _ _ _ _ _ _ (heap_alloc_new w2 _)]; rfl
          have c4_3 : w3.cell? ⟨w2.heap.size, 4, none⟩ = some (.int .i64 r') := by rw [← hw3.out, cell_of_row _ _ _ _ _ _ (heap_alloc_new w2 _)]; rfl
          have n0_3 := keepcell n0_2 b3
          have n1_3 := keepcell n1_2 b3
          have n2_3 := keepcell n2_2 b3
          have a0_3 := keepcell a0_2 b3
          have a1_3 := keepcell a1_2 b3
          have a2_3 := keepcell a2_2 b3
          have a3_3 := keepcell a3_2 b3
          have a4_3 := keepcell a4_2 b3
          have hacc3 := hacc2.below b3
          have hF3 := hF2.below b3
          have hB3 := hB2.trans (b3.mono hz2)
          have hz3 := hB3.size
          have S3 : Hid (w1.heap.size = wr.heap.size + 1 ∧ w2.heap.size = wr.heap.size + 2 ∧ w3.heap.size = wr.heap.size + 3) := ⟨s1, by omega, by omega⟩
          have N3 : Hid (¬ g = wr.heap.size ∧ ¬ g = w1.heap.size ∧ ¬ g = w2.heap.size ∧ ¬ ga = w1.heap.size) := ⟨by omega, by omega, by omega, by omega⟩
          clear s1 s2 s3 b1 b2 b3 hla hlb hacc1 hF1 hB1 hz1 hacc2 hF2 hB2 hz2 hng pc0_0 pc0_1 pc0_2 pc0_3 pc0_4 pc1_0 pc1_1 pc1_2 pc1_3 pc1_4
          cases up
          · -- down
            have HF := Lib.hid (fit_down (a := (pa : Int)) (b := (pb : Int)) (x := x) (y := y) (p := p) (q := q) (r := r) (x' := x') (y' := y') (p' := p') (r' := q') (s' := r'))
            rcases v0 : (y + q == y') with _ | _
            · have v0n : ¬ y + q = y' := fun e => by rw [e] at v0; simp at v0
              rw [v0, Bool.false_and, Bool.false_and] at HF
              have HN := Lib.hid (HNO.out HF.out)
              clear HF HNO HYES hF3
              go_wp2_with (first | rw [hw1.out] | rw [hw2.out] | rw [hw3.out] | (go_at_call 70; refine (l01In_any _ _ _ _).mono ?_; rintro e w' ⟨rfl, rfl⟩))
              go_ret
              exact boxes_out hacc3 hB3 HN.out
            obtain rfl : y + q = y' := beq_iff_eq.1 v0
            rcases v1 : (x == x') with _ | _
            · have v1n : ¬ x = x' := fun e => by rw [e] at v1; simp at v1
              rw [v0, v1, Bool.and_false, Bool.false_and] at HF
              have HN := Lib.hid (HNO.out HF.out)
              clear HF HNO HYES hF3
              go_wp2_with (first | rw [hw1.out] | rw [hw2.out] | rw [hw3.out] | (go_at_call 70; refine (l01In_any _ _ _ _).mono ?_; rintro e w' ⟨rfl, rfl⟩))
              go_ret
              exact boxes_out hacc3 hB3 HN.out
            obtain rfl : x = x' := beq_iff_eq.1 v1
            rcases v2 : (p == p') with _ | _
            · have v2n : ¬ p = p' := fun e => by rw [e] at v2; simp at v2
              rw [v0, v1, v2, Bool.and_false] at HF
              have HN := Lib.hid (HNO.out HF.out)
              clear HF HNO HYES hF3
              go_wp2_with (first | rw [hw1.out] | rw [hw2.out] | rw [hw3.out] | (go_at_call 70; refine (l01In_any _ _ _ _).mono ?_; rintro e w' ⟨rfl, rfl⟩))
              go_ret
              exact boxes_out hacc3 hB3 HN.out
            obtain rfl : p = p' := beq_iff_eq.1 v2
            rw [v0, v1, v2, Bool.and_self, Bool.and_self] at HF
            have HY := Lib.hid (runL_step HX.out hU.out (HYES.out HF.out))
            clear HF HNO HYES
            obtain ⟨ng0, ng1, ng2, nga⟩ := N3.out
            have fa3 := hF3.frozen pa
            have la3 := hF3.cell (p := pa) (by rw [HUL.out]; omega)
            obtain ⟨w4, hw4⟩ : ∃ v, Hid (w3.setCell ⟨g, pa, none⟩ (.bool true) = v) := ⟨_, rfl⟩
            have hF4 : Flags w4 g (st.used.set pa true) := by rw [← hw4.out]; exact hF3.set (by rw [HUL.out]; omega) true
            have hacc4 : Acc w4 (jl + 1) 44 5 (.slice (some ⟨ga, 0, none⟩) Lp c1) st.out patchC := by rw [← hw4.out]; exact hacc3.kept (grown_set _ g pa (.bool true)) (fun q hq e => hgo (by rw [hq, e]))
            have hB4 : Below W.heap.size W w4 := by rw [← hw4.out]; exact hB3.setCell (p := ⟨g, pa, none⟩) hgW _
            have s4 : w4.heap.size = w3.heap.size := by rw [← hw4.out]; simp [World.setCell]
            have n0_4 : w4.cell? ⟨wr.heap.size, 0, none⟩ = some (.bool false) := by rw [← hw4.out]; exact keep_set n0_3 ng0
            have n1_4 : w4.cell? ⟨wr.heap.size, 1, none⟩ = some (.int .i64 (pa : Int)) := by rw [← hw4.out]; exact keep_set n1_3 ng0
            have n2_4 : w4.cell? ⟨wr.heap.size, 2, none⟩ = some (.int .i64 (pb : Int)) := by rw [← hw4.out]; exact keep_set n2_3 ng0
            have a0_4 : w4.cell? ⟨w1.heap.size, 0, none⟩ = some (.int .i64 x) := by rw [← hw4.out]; exact keep_set a0_3 ng1
            have a1_4 : w4.cell? ⟨w1.heap.size, 1, none⟩ = some (.int .i64 y) := by rw [← hw4.out]; exact keep_set a1_3 ng1
            have a2_4 : w4.cell? ⟨w1.heap.size, 2, none⟩ = some (.int .i64 p) := by rw [← hw4.out]; exact keep_set a2_3 ng1
            have a3_4 : w4.cell? ⟨w1.heap.size, 3, none⟩ = some (.int .i64 q) := by rw [← hw4.out]; exact keep_set a3_3 ng1
            have a4_4 : w4.cell? ⟨w1.heap.size, 4, none⟩ = some (.int .i64 r) := by rw [← hw4.out]; exact keep_set a4_3 ng1
            have c0_4 : w4.cell? ⟨w2.heap.size, 0, none⟩ = some (.int .i64 x) := by rw [← hw4.out]; exact keep_set c0_3 ng2
            have c1_4 : w4.cell? ⟨w2.heap.size, 1, none⟩ = some (.int .i64 (y + q)) := by rw [← hw4.out]; exact keep_set c1_3 ng2
            have c2_4 : w4.cell? ⟨w2.heap.size, 2, none⟩ = some (.int .i64 p) := by rw [← hw4.out]; exact keep_set c2_3 ng2
            have c3_4 : w4.cell? ⟨w2.heap.size, 3, none⟩ = some (.int .i64 q') := by rw [← hw4.out]; exact keep_set c3_3 ng2
            have c4_4 : w4.cell? ⟨w2.heap.size, 4, none⟩ = some (.int .i64 r') := by rw [← hw4.out]; exact keep_set c4_3 ng2
            have fb4 := hF4.frozen pb
            have lb4 := hF4.cell (p := pb) (by rw [List.length_set, HUL.out]; omega)
            obtain ⟨w5, hw5⟩ : ∃ v, Hid (w4.setCell ⟨g, pb, none⟩ (.bool true) = v) := ⟨_, rfl⟩
            have hF5 : Flags w5 g ((st.used.set pa true).set pb true) := by rw [← hw5.out]; exact hF4.set (by rw [List.length_set, HUL.out]; omega) true
            have hacc5 : Acc w5 (jl + 1) 44 5 (.slice (some ⟨ga, 0, none⟩) Lp c1) st.out patchC := by rw [← hw5.out]; exact hacc4.kept (grown_set _ g pb (.bool true)) (fun q hq e => hgo (by rw [hq, e]))
            have hB5 : Below W.heap.size W w5 := by rw [← hw5.out]; exact hB4.setCell (p := ⟨g, pb, none⟩) hgW _
            have s5 : w5.heap.size = w4.heap.size := by rw [← hw5.out]; simp [World.setCell]
            have n0_5 : w5.cell? ⟨wr.heap.size, 0, none⟩ = some (.bool false) := by rw [← hw5.out]; exact keep_set n0_4 ng0
            have a0_5 : w5.cell? ⟨w1.heap.size, 0, none⟩ = some (.int .i64 x) := by rw [← hw5.out]; exact keep_set a0_4 ng1
            have a1_5 : w5.cell? ⟨w1.heap.size, 1, none⟩ = some (.int .i64 y) := by rw [← hw5.out]; exact keep_set a1_4 ng1
            have a2_5 : w5.cell? ⟨w1.heap.size, 2, none⟩ = some (.int .i64 p) := by rw [← hw5.out]; exact keep_set a2_4 ng1
            have a3_5 : w5.cell? ⟨w1.heap.size, 3, none⟩ = some (.int .i64 q) := by rw [← hw5.out]; exact keep_set a3_4 ng1
            have a4_5 : w5.cell? ⟨w1.heap.size, 4, none⟩ = some (.int .i64 r) := by rw [← hw5.out]; exact keep_set a4_4 ng1
            have c0_5 : w5.cell? ⟨w2.heap.size, 0, none⟩ = some (.int .i64 x) := by rw [← hw5.out]; exact keep_set c0_4 ng2
            have c1_5 : w5.cell? ⟨w2.heap.size, 1, none⟩ = some (.int .i64 (y + q)) := by rw [← hw5.out]; exact keep_set c1_4 ng2
            have c2_5 : w5.cell? ⟨w2.heap.size, 2, none⟩ = some (.int .i64 p) := by rw [← hw5.out]; exact keep_set c2_4 ng2
            have c3_5 : w5.cell? ⟨w2.heap.size, 3, none⟩ = some (.int .i64 q') := by rw [← hw5.out]; exact keep_set c3_4 ng2
            have c4_5 : w5.cell? ⟨w2.heap.size, 4, none⟩ = some (.int .i64 r') := by rw [← hw5.out]; exact keep_set c4_4 ng2
            have fz5 : w5.frozen? ⟨w1.heap.size, 3, none⟩ = false := by rw [← hw5.out, ← hw4.out, ← hw3.out]; simp only [fz_set]; rw [fz_old (by have := S3.out; omega), ← hw2.out]; exact frozen_of_row _ _ _ _ _ (heap_alloc_new w1 _)
            obtain ⟨w6, hw6⟩ : ∃ v, Hid (w5.setCell ⟨w1.heap.size, 3, none⟩ (.int .i64 (q + q')) = v) := ⟨_, rfl⟩
            have a0_6 : w6.cell? ⟨w1.heap.size, 0, none⟩ = some (.int .i64 x) := by rw [← hw6.out, World.cell?_setCell_other _ _ _ _ (by simp)]; exact a0_5
            have a1_6 : w6.cell? ⟨w1.heap.size, 1, none⟩ = some (.int .i64 y) := by rw [← hw6.out, World.cell?_setCell_other _ _ _ _ (by simp)]; exact a1_5
            have a2_6 : w6.cell? ⟨w1.heap.size, 2, none⟩ = some (.int .i64 p) := by rw [← hw6.out, World.cell?_setCell_other _ _ _ _ (by simp)]; exact a2_5
            have a3_6 : w6.cell? ⟨w1.heap.size, 3, none⟩ = some (.int .i64 (q + q')) := by rw [← hw6.out]; simp [World.cell?_setCell_same', a3_5]
            have a4_6 : w6.cell? ⟨w1.heap.size, 4, none⟩ = some (.int .i64 r) := by rw [← hw6.out, World.cell?_setCell_other _ _ _ _ (by simp)]; exact a4_5
            have hacc6 : Acc w6 (jl + 1) 44 5 (.slice (some ⟨ga, 0, none⟩) Lp c1) st.out patchC := by rw [← hw6.out]; exact hacc5.kept (grown_set _ w1.heap.size 3 (.int .i64 (q + q'))) (fun q hq e => by
              have h1 : ga = q := by simpa [Value.ownBlock] using hq
              injection e with e
              exact nga (h1.trans e.symm))
            have hF6 : Flags w6 g ((st.used.set pa true).set pb true) := by rw [← hw6.out]; exact hF5.grow (grown_set _ w1.heap.size 3 (.int .i64 (q + q'))) (fun e => by injection e with e; exact ng1 e)
            have hB6 : Below W.heap.size W w6 := by rw [← hw6.out]; exact hB5.setCell (p := ⟨w1.heap.size, 3, none⟩) (by show W.heap.size ≤ w1.heap.size; have := S3.out; omega) _
            have s6 : w6.heap.size = w5.heap.size := by rw [← hw6.out]; simp [World.setCell]
            have S6 : Hid (w6.heap.size = wr.heap.size + 3) := by have := S3.out; exact (by omega : w6.heap.size = wr.heap.size + 3)
            have hjl6 : jl + 1 ≤ w6.heap.size := by rw [S6.out]; omega
            have hW6 : W.heap.size ≤ w6.heap.size := by rw [S6.out]; omega
            have hol : st.out.length + 1 ≤ 4294967296 := by rw [← hLp.out]; omega
            have HGW := Lib.hid hgW
            clear s4 s5 s6 ng0 ng1 ng2 nga N3 hacc3 hacc4 hacc5 hF3 hF4 hF5 hB3 hB4 hB5 hgW hF hacc hB
            go_wp2_with (first | rw [hw1.out] | rw [hw2.out] | rw [hw3.out] | rw [hw4.out] | rw [hw5.out] | rw [hw6.out] | (go_at_call 70; refine (l01In_any _ _ _ _).mono ?_; rintro e w' ⟨rfl, rfl⟩) | (at_builtin; refine wpList_acc1 rfl _ _ 28 rfl (jl + 1) 44 (.agg #[.int .i64 0, .int .i64 0, .int .i64 0, .int .i64 0, .int .i64 0]) 5 40 Try.underlying28 infoPatch rfl (by omega) _ st.out patchC ⟨x, y, p, q + q', r⟩ rfl hacc6 _ _ rfl _ rfl (by simp) rfl (by simp [patchC, Value.oneCell']) hol (by omega) hjl6 ?_; intro v7 w7 hacc7 hgrow7 hat7))
            go_roundw
            case rel =>
              refine ⟨k + 1, _, by omega, by go_num, hacc7, hF6.grow hgrow7 (fun e => hga1 (Option.some.inj (show some ga = some g from e.symm))), ?_, HY.out, hacc6.grow_below hB6 hgrow7 (by have := hjl.out; omega) hW6, Nat.le_trans hjl6 hgrow7.size⟩
              intro e
              rcases hat7 with h7 | h7
              · rw [h7] at e
                exact hga1 (Option.some.inj (show some ga = some g from e))
              · rw [h7, S6.out] at e
                injection e with e
                omega
            case measure => simp [intOf]; omega
          · -- up
            have HF := Lib.hid (fit_up (a := (pa : Int)) (b := (pb : Int)) (x := x) (y := y) (p := p) (q := q) (r := r) (x' := x') (y' := y') (p' := p') (r' := q') (s' := r'))
            rcases v0 : (x + p == x') with _ | _
            · have v0n : ¬ x + p = x' := fun e => by rw [e] at v0; simp at v0
              rw [v0, Bool.false_and, Bool.false_and] at HF
              have HN := Lib.hid (HNO.out HF.out)
              clear HF HNO HYES hF3
              go_wp2_with (first | rw [hw1.out] | rw [hw2.out] | rw [hw3.out] | (go_at_call 70; refine (l01In_any _ _ _ _).mono ?_; rintro e w' ⟨rfl, rfl⟩))
              go_ret
              exact boxes_out hacc3 hB3 HN.out
            obtain rfl : x + p = x' := beq_iff_eq.1 v0
            rcases v1 : (y == y') with _ | _
            · have v1n : ¬ y = y' := fun e => by rw [e] at v1; simp at v1
              rw [v0, v1, Bool.and_false, Bool.false_and] at HF
              have HN := Lib.hid (HNO.out HF.out)
              clear HF HNO HYES hF3
              go_wp2_with (first | rw [hw1.out] | rw [hw2.out] | rw [hw3.out] | (go_at_call 70; refine (l01In_any _ _ _ _).mono ?_; rintro e w' ⟨rfl, rfl⟩))
              go_ret
              exact boxes_out hacc3 hB3 HN.out
            obtain rfl : y = y' := beq_iff_eq.1 v1
            rcases v2 : (q == q') with _ | _
            · have v2n : ¬ q = q' := fun e => by rw [e] at v2; simp at v2
              rw [v0, v1, v2, Bool.and_false] at HF
              have HN := Lib.hid (HNO.out HF.out)
              clear HF HNO HYES hF3
              go_wp2_with (first | rw [hw1.out] | rw [hw2.out] | rw [hw3.out] | (go_at_call 70; refine (l01In_any _ _ _ _).mono ?_; rintro e w' ⟨rfl, rfl⟩))
              go_ret
              exact boxes_out hacc3 hB3 HN.out
            obtain rfl : q = q' := beq_iff_eq.1 v2
            rw [v0, v1, v2, Bool.and_self, Bool.and_self] at HF
            have HY := Lib.hid (runL_step HX.out hU.out (HYES.out HF.out))
            clear HF HNO HYES
            obtain ⟨ng0, ng1, ng2, nga⟩ := N3.out
            have fa3 := hF3.frozen pa
            have la3 := hF3.cell (p := pa) (by rw [HUL.out]; omega)
            obtain ⟨w4, hw4⟩ : ∃ v, Hid (w3.setCell ⟨g, pa, none⟩ (.bool true) = v) := ⟨_, rfl⟩
            have hF4 : Flags w4 g (st.used.set pa true) := by rw [← hw4.out]; exact hF3.set (by rw [HUL.out]; omega) true
            have hacc4 : Acc w4 (jl + 1) 44 5 (.slice (some ⟨ga, 0, none⟩) Lp c1) st.out patchC := by rw [← hw4.out]; exact hacc3.kept (grown_set _ g pa (.bool true)) (fun q hq e => hgo (by rw [hq, e]))
            have hB4 : Below W.heap.size W w4 := by rw [← hw4.out]; exact hB3.setCell (p := ⟨g, pa, none⟩) hgW _
            have s4 : w4.heap.size = w3.heap.size := by rw [← hw4.out]; simp [World.setCell]
            have n0_4 : w4.cell? ⟨wr.heap.size, 0, none⟩ = some (.bool true) := by rw [← hw4.out]; exact keep_set n0_3 ng0
            have n1_4 : w4.cell? ⟨wr.heap.size, 1, none⟩ = some (.int .i64 (pa : Int)) := by rw [← hw4.out]; exact keep_set n1_3 ng0
            have n2_4 : w4.cell? ⟨wr.heap.size, 2, none⟩ = some (.int .i64 (pb : Int)) := by rw [← hw4.out]; exact keep_set n2_3 ng0
            have a0_4 : w4.cell? ⟨w1.heap.size, 0, none⟩ = some (.int .i64 x) := by rw [← hw4.out]; exact keep_set a0_3 ng1
            have a1_4 : w4.cell? ⟨w1.heap.size, 1, none⟩ = some (.int .i64 y) := by rw [← hw4.out]; exact keep_set a1_3 ng1
            have a2_4 : w4.cell? ⟨w1.heap.size, 2, none⟩ = some (.int .i64 p) := by rw [← hw4.out]; exact keep_set a2_3 ng1
            have a3_4 : w4.cell? ⟨w1.heap.size, 3, none⟩ = some (.int .i64 q) := by rw [← hw4.out]; exact keep_set a3_3 ng1
            have a4_4 : w4.cell? ⟨w1.heap.size, 4, none⟩ = some (.int .i64 r) := by rw [← hw4.out]; exact keep_set a4_3 ng1
            have c0_4 : w4.cell? ⟨w2.heap.size, 0, none⟩ = some (.int .i64 (x + p)) := by rw [← hw4.out]; exact keep_set c0_3 ng2
            have c1_4 : w4.cell? ⟨w2.heap.size, 1, none⟩ = some (.int .i64 y) := by rw [← hw4.out]; exact keep_set c1_3 ng2
            have c2_4 : w4.cell? ⟨w2.heap.size, 2, none⟩ = some (.int .i64 p') := by rw [← hw4.out]; exact keep_set c2_3 ng2
            have c3_4 : w4.cell? ⟨w2.heap.size, 3, none⟩ = some (.int .i64 q) := by rw [← hw4.out]; exact keep_set c3_3 ng2
            have c4_4 : w4.cell? ⟨w2.heap.size, 4, none⟩ = some (.int .i64 r') := by rw [← hw4.out]; exact keep_set c4_3 ng2
            have fb4 := hF4.frozen pb
            have lb4 := hF4.cell (p := pb) (by rw [List.length_set, HUL.out]; omega)
            obtain ⟨w5, hw5⟩ : ∃ v, Hid (w4.setCell ⟨g, pb, none⟩ (.bool true) = v) := ⟨_, rfl⟩
            have hF5 : Flags w5 g ((st.used.set pa true).set pb true) := by rw [← hw5.out]; exact hF4.set (by rw [List.length_set, HUL.out]; omega) true
            have hacc5 : Acc w5 (jl + 1) 44 5 (.slice (some ⟨ga, 0, none⟩) Lp c1) st.out patchC := by rw [← hw5.out]; exact hacc4.kept (grown_set _ g pb (.bool true)) (fun q hq e => hgo (by rw [hq, e]))
            have hB5 : Below W.heap.size W w5 := by rw [← hw5.out]; exact hB4.setCell (p := ⟨g, pb, none⟩) hgW _
            have s5 : w5.heap.size = w4.heap.size := by rw [← hw5.out]; simp [World.setCell]
            have n0_5 : w5.cell? ⟨wr.heap.size, 0, none⟩ = some (.bool true) := by rw [← hw5.out]; exact keep_set n0_4 ng0
            have a0_5 : w5.cell? ⟨w1.heap.size, 0, none⟩ = some (.int .i64 x) := by rw [← hw5.out]; exact keep_set a0_4 ng1
            have a1_5 : w5.cell? ⟨w1.heap.size, 1, none⟩ = some (.int .i64 y) := by rw [← hw5.out]; exact keep_set a1_4 ng1
            have a2_5 : w5.cell? ⟨w1.heap.size, 2, none⟩ = some (.int .i64 p) := by rw [← hw5.out]; exact keep_set a2_4 ng1
            have a3_5 : w5.cell? ⟨w1.heap.size, 3, none⟩ = some (.int .i64 q) := by rw [← hw5.out]; exact keep_set a3_4 ng1
            have a4_5 : w5.cell? ⟨w1.heap.size, 4, none⟩ = some (.int .i64 r) := by rw [← hw5.out]; exact keep_set a4_4 ng1
            have c0_5 : w5.cell? ⟨w2.heap.size, 0, none⟩ = some (.int .i64 (x + p)) := by rw [← hw5.out]; exact keep_set c0_4 ng2
            have c1_5 : w5.cell? ⟨w2.heap.size, 1, none⟩ = some (.int .i64 y) := by rw [← hw5.out]; exact keep_set c1_4 ng2
            have c2_5 : w5.cell? ⟨w2.heap.size, 2, none⟩ = some (.int .i64 p') := by rw [← hw5.out]; exact keep_set c2_4 ng2
            have c3_5 : w5.cell? ⟨w2.heap.size, 3, none⟩ = some (.int .i64 q) := by rw [← hw5.out]; exact keep_set c3_4 ng2
            have c4_5 : w5.cell? ⟨w2.heap.size, 4, none⟩ = some (.int .i64 r') := by rw [← hw5.out]; exact keep_set c4_4 ng2
            have fz5 : w5.frozen? ⟨w1.heap.size, 2, none⟩ = false := by rw [← hw5.out, ← hw4.out, ← hw3.out]; simp only [fz_set]; rw [fz_old (by have := S3.out; omega), ← hw2.out]; exact frozen_of_row _ _ _ _ _ (heap_alloc_new w1 _)
            obtain ⟨w6, hw6⟩ : ∃ v, Hid (w5.setCell ⟨w1.heap.size, 2, none⟩ (.int .i64 (p + p')) = v) := ⟨_, rfl⟩
            have a0_6 : w6.cell? ⟨w1.heap.size, 0, none⟩ = some (.int .i64 x) := by rw [← hw6.out, World.cell?_setCell_other _ _ _ _ (by simp)]; exact a0_5
            have a1_6 : w6.cell? ⟨w1.heap.size, 1, none⟩ = some (.int .i64 y) := by rw [← hw6.out, World.cell?_setCell_other _ _ _ _ (by simp)]; exact a1_5
            have a2_6 : w6.cell? ⟨w1.heap.size, 2, none⟩ = some (.int .i64 (p + p')) := by rw [← hw6.out]; simp [World.cell?_setCell_same', a2_5]
            have a3_6 : w6.cell? ⟨w1.heap.size, 3, none⟩ = some (.int .i64 q) := by rw [← hw6.out, World.cell?_setCell_other _ _ _ _ (by simp)]; exact a3_5
            have a4_6 : w6.cell? ⟨w1.heap.size, 4, none⟩ = some (.int .i64 r) := by rw [← hw6.out, World.cell?_setCell_other _ _ _ _ (by simp)]; exact a4_5
            have hacc6 : Acc w6 (jl + 1) 44 5 (.slice (some ⟨ga, 0, none⟩) Lp c1) st.out patchC := by rw [← hw6.out]; exact hacc5.kept (grown_set _ w1.heap.size 2 (.int .i64 (p + p'))) (fun q hq e => by
              have h1 : ga = q := by simpa [Value.ownBlock] using hq
              injection e with e
              exact nga (h1.trans e.symm))
            have hF6 : Flags w6 g ((st.used.set pa true).set pb true) := by rw [← hw6.out]; exact hF5.grow (grown_set _ w1.heap.size 2 (.int .i64 (p + p'))) (fun e => by injection e with e; exact ng1 e)
            have hB6 : Below W.heap.size W w6 := by rw [← hw6.out]; exact hB5.setCell (p := ⟨w1.heap.size, 2, none⟩) (by show W.heap.size ≤ w1.heap.size; have := S3.out; omega) _
            have s6 : w6.heap.size = w5.heap.size := by rw [← hw6.out]; simp [World.setCell]
            have S6 : Hid (w6.heap.size = wr.heap.size + 3) := by have := S3.out; exact (by omega : w6.heap.size = wr.heap.size + 3)
            have hjl6 : jl + 1 ≤ w6.heap.size := by rw [S6.out]; omega
            have hW6 : W.heap.size ≤ w6.heap.size := by rw [S6.out]; omega
            have hol : st.out.length + 1 ≤ 4294967296 := by rw [← hLp.out]; omega
            have HGW := Lib.hid hgW
            clear s4 s5 s6 ng0 ng1 ng2 nga N3 hacc3 hacc4 hacc5 hF3 hF4 hF5 hB3 hB4 hB5 hgW hF hacc hB
            go_wp2_with (first | rw [hw1.out] | rw [hw2.out] | rw [hw3.out] | rw [hw4.out] | rw [hw5.out] | rw [hw6.out] | (go_at_call 70; refine (l01In_any _ _ _ _).mono ?_; rintro e w' ⟨rfl, rfl⟩) | (at_builtin; refine wpList_acc1 rfl _ _ 28 rfl (jl + 1) 44 (.agg #[.int .i64 0, .int .i64 0, .int .i64 0, .int .i64 0, .int .i64 0]) 5 40 Try.underlying28 infoPatch rfl (by omega) _ st.out patchC ⟨x, y, p + p', q, r⟩ rfl hacc6 _ _ rfl _ rfl (by simp) rfl (by simp [patchC, Value.oneCell']) hol (by omega) hjl6 ?_; intro v7 w7 hacc7 hgrow7 hat7))
            go_roundw
            case rel =>
              refine ⟨k + 1, _, by omega, by go_num, hacc7, hF6.grow hgrow7 (fun e => hga1 (Option.some.inj (show some ga = some g from e.symm))), ?_, HY.out, hacc6.grow_below hB6 hgrow7 (by have := hjl.out; omega) hW6, Nat.le_trans hjl6 hgrow7.size⟩
              intro e
              rcases hat7 with h7 | h7
              · rw [h7] at e
                exact hga1 (Option.some.inj (show some ga = some g from e))
              · rw [h7, S6.out] at e
                injection e with e
                omega
            case measure => simp [intOf]; omega
        · rw [ha] at hla
          rw [hb] at hlb
          have HN := Lib.hid (HSTOP.out (sew_no1 (by rw [HFJ.out, ha, hb]; rfl)))
          clear hO e1
          go_wp2_with (go_at_call 70; refine (l01In_any _ _ _ _).mono ?_; rintro e w' ⟨rfl, rfl⟩)
          go_ret
          exact boxes_out (hacc.alloc _) (by (repeat (first | exact Below.refl _ _ | assumption | (refine Below.drew ?_) | (refine below_drewN ?_ _) | (refine Below.alloc ?_ (by first | exact Nat.le_refl _ | (simp; done) | (simp; omega) | omega) _) | (refine Below.setCell ?_ (by first | exact Nat.le_refl _ | (simp; done) | (simp; omega) | omega) _) | (refine Below.trans ?_ (Below.mono (by assumption) (by first | exact Nat.le_refl _ | (simp; done) | (simp; omega) | omega)))))) HN.out
      · rw [ha] at hla
        have HN := Lib.hid (HSTOP.out (sew_no1 (by rw [HFJ.out, ha]; rfl)))
        clear hO e1 hlb
        go_wp2_with (go_at_call 70; refine (l01In_any _ _ _ _).mono ?_; rintro e w' ⟨rfl, rfl⟩)
        go_ret
        exact boxes_out (hacc.alloc _) (by (repeat (first | exact Below.refl _ _ | assumption | (refine Below.drew ?_) | (refine below_drewN ?_ _) | (refine Below.alloc ?_ (by first | exact Nat.le_refl _ | (simp; done) | (simp; omega) | omega) _) | (refine Below.setCell ?_ (by first | exact Nat.le_refl _ | (simp; done) | (simp; omega) | omega) _) | (refine Below.trans ?_ (Below.mono (by assumption) (by first | exact Nat.le_refl _ | (simp; done) | (simp; omega) | omega)))))) HN.out
    · obtain rfl : k = m := by omega
      have HN := Lib.hid (show sewn ps ls = st from goL_full (by rw [HLJ.out]; exact Nat.le_refl _) hU.out)
      go_wp2
      go_ret
      exact boxes_out hacc hB HN.out

end Go.Proofs.Ytmjdgplkcocgmaa
