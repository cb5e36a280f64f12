/-
  Contracts over cuts: whether a layout can be sewn, by the reference.
-/
import Derived.Test.YtmjdgplkcocgmaaKnoF
import Derived.Test.YtmjdgplkcocgmaaZWords
set_option linter.unusedVariables false
set_option linter.unusedSimpArgs false
namespace Go.Proofs.Ytmjdgplkcocgmaa
open Go.RowKit

theorem keep5 {w w' : World} {a0 a1 a2 a3 a4 : Addr} {u0 u1 u2 u3 u4 : Value} (h : w.cell? a0 = some u0 ∧ w.cell? a1 = some u1 ∧ w.cell? a2 = some u2 ∧ w.cell? a3 = some u3 ∧ w.cell? a4 = some u4) (hb : Below w.heap.size w w') : w'.cell? a0 = some u0 ∧ w'.cell? a1 = some u1 ∧ w'.cell? a2 = some u2 ∧ w'.cell? a3 = some u3 ∧ w'.cell? a4 = some u4 :=
  ⟨keepcell h.1 hb, keepcell h.2.1 hb, keepcell h.2.2.1 hb, keepcell h.2.2.2.1 hb, keepcell h.2.2.2.2 hb⟩
theorem sew_no {l : Lay} (k : okLay l = false) : false = canSew l := by unfold canSew; rw [k]; rfl
theorem sew_one {l : Lay} (k : okLay l = true) (h1 : l.ps.length = 1) : true = canSew l := by unfold canSew; rw [k, knot_none (.inr h1)]; rfl
theorem sew_knot {l : Lay} (k : okLay l = true) (h1 : l.ps.length ≠ 1) (hc : cutsOf l.w l.h l.ps = []) : false = canSew l := by unfold canSew; rw [k, knot_here k h1 hc]; rfl
theorem sew_cut {l : Lay} {c : Cut} {cs : List Cut} (k : okLay l = true) (h1 : l.ps.length ≠ 1) (hc : cutsOf l.w l.h l.ps = c :: cs) : (canSew (subA c l) && canSew (subB c l)) = canSew l := by
  have hk : isCut l.w l.h l.ps c = true := mem_cuts.1 (by rw [hc]; simp)
  obtain ⟨h2, h3, _⟩ := parts_ok hk
  unfold canSew
  rw [k, show okLay (subA c l) = true from h2, show okLay (subB c l) = true from h3, knot_cut k h1 hc]
  cases firstKnot (subA c l) <;> simp

set_option maxRecDepth 100000 in
set_option maxHeartbeats 2000000 in
theorem canSewS_N : ∀ (f : Nat) (w h : Int) (A : Option Addr) (n c : Nat) (ps : List Patch) (W : World), ps.length ≤ f → Rd W A n 5 ps patchC → n ≤ 1048576 →
    Calls Try.prog 54 #[.agg #[.int .i64 w, .int .i64 h, .slice A n c]] W fun e w' => e = .returned (.bool (canSew ⟨w, h, ps⟩)) ∧ Below W.heap.size W w' := by
  intro f
  induction f with
  | zero =>
    intro w h A n c ps W hf hR hN
    have HLEN := Lib.hid hR.len
    obtain ⟨jb, hjb⟩ : ∃ j, Hid (W.heap.size = j) := ⟨_, rfl⟩
    obtain ⟨wa, hwa⟩ : ∃ v, Hid (W.alloc (.cells #[.int .i64 w, .int .i64 h, .slice A n c] 30) = v) := ⟨_, rfl⟩
    have e0 : wa.cell? ⟨jb, 0, none⟩ = some (.int .i64 w) := by rw [← hwa.out, ← hjb.out, cell_of_row _ _ _ _ _ _ (heap_alloc_new W _)]; rfl
    have e1 : wa.cell? ⟨jb, 1, none⟩ = some (.int .i64 h) := by rw [← hwa.out, ← hjb.out, cell_of_row _ _ _ _ _ _ (heap_alloc_new W _)]; rfl
    have e2 : wa.cell? ⟨jb, 2, none⟩ = some (.slice A n c) := by rw [← hwa.out, ← hjb.out, cell_of_row _ _ _ _ _ _ (heap_alloc_new W _)]; rfl
    have ba : Below W.heap.size W wa := by rw [← hwa.out]; exact (Below.refl _ _).alloc (Nat.le_refl _) _
    have hRa := hR.below ba
    go_enter Try.func54, Try.ntmps54
    go_wp2_with (first | rw [hwa.out] | rw [hjb.out])
    refine (layoutS_any _ _ _ _ _ ps _ hRa hN).mono ?_
    rintro e w1 ⟨rfl, hb1⟩
    replace e0 := keepcell e0 hb1
    replace e1 := keepcell e1 hb1
    replace e2 := keepcell e2 hb1
    have hB1 := ba.trans (hb1.mono ba.size)
    have hs1 := hB1.size
    have hR1 := hRa.below hb1
    clear hb1 ba hRa
    rcases hl : layoutOk w h ps with _ | _
    · have HN := Lib.hid (sew_no (l := ⟨w, h, ps⟩) hl)
      go_wp2
      go_ret
      exact ⟨ret_b HN.out, hB1⟩
    exact absurd (layout_parts hl).2.2.1.1 (by omega)
  | succ f ih =>
    intro w h A n c ps W hf hR hN
    have HLEN := Lib.hid hR.len
    obtain ⟨jb, hjb⟩ : ∃ j, Hid (W.heap.size = j) := ⟨_, rfl⟩
    obtain ⟨wa, hwa⟩ : ∃ v, Hid (W.alloc (.cells #[.int .i64 w, .int .i64 h, .slice A n c] 30) = v) := ⟨_, rfl⟩
    have e0 : wa.cell? ⟨jb, 0, none⟩ = some (.int .i64 w) := by rw [← hwa.out, ← hjb.out, cell_of_row _ _ _ _ _ _ (heap_alloc_new W _)]; rfl
    have e1 : wa.cell? ⟨jb, 1, none⟩ = some (.int .i64 h) := by rw [← hwa.out, ← hjb.out, cell_of_row _ _ _ _ _ _ (heap_alloc_new W _)]; rfl
    have e2 : wa.cell? ⟨jb, 2, none⟩ = some (.slice A n c) := by rw [← hwa.out, ← hjb.out, cell_of_row _ _ _ _ _ _ (heap_alloc_new W _)]; rfl
    have ba : Below W.heap.size W wa := by rw [← hwa.out]; exact (Below.refl _ _).alloc (Nat.le_refl _) _
    have hRa := hR.below ba
    go_enter Try.func54, Try.ntmps54
    go_wp2_with (first | rw [hwa.out] | rw [hjb.out])
    refine (layoutS_any _ _ _ _ _ ps _ hRa hN).mono ?_
    rintro e w1 ⟨rfl, hb1⟩
    replace e0 := keepcell e0 hb1
    replace e1 := keepcell e1 hb1
    replace e2 := keepcell e2 hb1
    have hB1 := ba.trans (hb1.mono ba.size)
    have hs1 := hB1.size
    have hR1 := hRa.below hb1
    clear hb1 ba hRa
    rcases hl : layoutOk w h ps with _ | _
    · have HN := Lib.hid (sew_no (l := ⟨w, h, ps⟩) hl)
      go_wp2
      go_ret
      exact ⟨ret_b HN.out, hB1⟩
    have HL := Lib.hid hl
    have hn12 := (layout_parts hl).2.2.1
    rw [HLEN.out] at hn12
    clear hl
    by_cases hn1 : n = 1
    · have HN := Lib.hid (sew_one (l := ⟨w, h, ps⟩) HL.out (by show ps.length = 1; rw [HLEN.out]; exact hn1))
      have hn1' : ((n : Int) == 1) = true := by rw [hn1]; rfl
      clear hn1
      go_wp2
      go_ret
      exact ⟨ret_b HN.out, hB1⟩
    have hn1' : ((n : Int) == 1) = false := by rw [beq_eq_false_iff_ne]; omega
    have hn1n : ¬ (n : Int) = 1 := by omega
    have HN1 := Lib.hid (show ps.length ≠ 1 by rw [HLEN.out]; exact hn1)
    clear hn1
    go_wp2_with fail
    refine (cutsOfS_any _ _ _ _ _ ps _ hR1 hN).mono ?_
    rintro e w2 ⟨C2, k2, rfl, hk2, hO2, hb2⟩
    replace e0 := keepcell e0 hb2
    replace e1 := keepcell e1 hb2
    replace e2 := keepcell e2 hb2
    have hB2 := hB1.trans (hb2.mono hs1)
    have hs2 := hB2.size
    have hR2 := hR1.below hb2
    clear hb2 hB1 hs1 hR1 hn1' hn1n
    have hCR := hO2.rd
    clear hO2
    rcases hcs : cutsOf w h ps with _ | ⟨ct, cs⟩
    · have HN := Lib.hid (sew_knot (l := ⟨w, h, ps⟩) HL.out HN1.out hcs)
      rw [hcs] at hCR
      go_wp2
      go_ret
      exact ⟨ret_b HN.out, hB2⟩
    rw [hcs] at hCR
    obtain ⟨m, hm⟩ : ∃ m, Hid ((ct :: cs).length = m) := ⟨_, rfl⟩
    have hm0 : 0 < m := by rw [← hm.out]; simp
    rw [hm.out] at hCR ⊢
    have hmI : (0 : Int) < (m : Int) := by omega
    have hmz : ((m : Int) == 0) = false := by rw [beq_eq_false_iff_ne]; omega
    have hmz' : ¬ m = 0 := by omega
    obtain ⟨b, off, x, rfl, hbW, hx, q0, q1⟩ := hCR.cut hm0 (Below.refl _ _)
    have hxe : x = ct := by simpa using hx.symm
    subst hxe
    clear hx
    obtain ⟨up, at'⟩ := x
    simp only [Nat.zero_mul, Nat.add_zero] at q0 q1
    have hk : isCut w h ps ⟨up, at'⟩ = true := mem_cuts.1 (by rw [hcs]; simp)
    have HK := Lib.hid hk
    have HC := Lib.hid (sew_cut (l := ⟨w, h, ps⟩) HL.out HN1.out hcs)
    have hsm := cut_smaller (l := ⟨w, h, ps⟩) hk
    have hsA : (partA ⟨up, at'⟩ ps).length ≤ f := by have h9 := hsm.1; have : (partA ⟨up, at'⟩ ps).length < ps.length := h9; omega
    have hsB : (partB ⟨up, at'⟩ ps).length ≤ f := by have h9 := hsm.2; have : (partB ⟨up, at'⟩ ps).length < ps.length := h9; omega
    clear hk hsm hcs hCR
    go_wp2
    have hjbw : jb < w2.heap.size := by have h1 := hjb.out; have h2 := block_lt_of_cell e0; exact h2
    have HB2 := Lib.hid hB2
    refine wp_region_held_drew (S := (fun v => v.cell? ⟨jb, 0, none⟩ = some (.int .i64 w) ∧ v.cell? ⟨jb, 1, none⟩ = some (.int .i64 h) ∧ v.cell? ⟨jb, 2, none⟩ = some (.slice A n c) ∧ v.cell? ⟨b, off, none⟩ = some (.bool up) ∧ v.cell? ⟨b, off + 1, none⟩ = some (.int .i64 at'))) (by kernel_rfl) ⟨keep_drew e0, keep_drew e1, keep_drew e2, keep_drew q0, keep_drew q1⟩ (fun hHeld => ?_)
    have hB0 : Below W.heap.size W (World.drew w2) := hB2.drew
    have hR0 : Rd (World.drew w2) A n 5 ps patchC := hR2
    have hb0 : b < (World.drew w2).heap.size := hbW
    have hj0 : jb < (World.drew w2).heap.size := hjbw
    have hs0 : W.heap.size ≤ (World.drew w2).heap.size := hs2
    obtain ⟨v0, hv0⟩ : ∃ v, Hid (World.drew w2 = v) := ⟨_, rfl⟩
    rw [hv0.out] at hHeld hB0 hR0 hb0 hj0 hs0 ⊢
    clear e0 e1 e2 q0 q1 hR2 hB2 hbW hjbw hs2
    (refine take_yes (i := 0) (d := some 20) (v := ?_) rfl rfl (by kernel_rfl) (by kernel_rfl) (by kernel_rfl) (by rfl) (fun _ _ _ h => h) ?_ (by assumption) ?_; rotate_left; focus ((intro w' hSw; (try dsimp only at hSw); go_simp) <;> with_reducible rfl)); (try simp only [Act.put, List.setIfInBounds_toArray, List.set_cons_zero, List.set_cons_succ])
    (refine take_yes (i := 1) (d := some 21) (v := ?_) rfl rfl (by kernel_rfl) (by kernel_rfl) (by kernel_rfl) (by rfl) (fun _ _ _ h => h) ?_ (by assumption) ?_; rotate_left; focus ((intro w' hSw; (try dsimp only at hSw); go_simp) <;> with_reducible rfl)); (try simp only [Act.put, List.setIfInBounds_toArray, List.set_cons_zero, List.set_cons_succ])
    (refine take_yes (i := 2) (d := some 22) (v := ?_) rfl rfl (by kernel_rfl) (by kernel_rfl) (by kernel_rfl) (by rfl) (fun _ _ _ h => h) ?_ (by assumption) ?_; rotate_left; focus ((intro w' hSw; (try dsimp only at hSw); go_simp) <;> with_reducible rfl)); (try simp only [Act.put, List.setIfInBounds_toArray, List.set_cons_zero, List.set_cons_succ])
    (refine take_yes (i := 3) (d := some 23) (v := ?_) rfl rfl (by kernel_rfl) (by kernel_rfl) (by kernel_rfl) (by rfl) (fun _ _ _ h => h) ?_ (by assumption) ?_; rotate_left; focus ((intro w' hSw; (try dsimp only at hSw); go_simp) <;> with_reducible rfl)); (try simp only [Act.put, List.setIfInBounds_toArray, List.set_cons_zero, List.set_cons_succ])
    refine wpAnyH_ready (rs := [4, 9, 10]) (by kernel_rfl) (by simp) ?_
    refine AllReadyH.cons (o := _) rfl (fun K hK => ?_) (AllReadyH.cons (o := _) rfl (fun K hK => ?_) (AllReadyH.cons (o := _) rfl (fun K hK => ?_) AllReadyH.nil))
    · go_simp
      refine (splitS_any w h A n c ps up at' _ hR0 hN HK.out).mono ?_
      rintro e v1 ⟨A1, n1, c1, A2, n2, c2, rfl, hPA, hPB, bb1⟩
      have hlo1 := bb1.size
      refine hK.out _ _ (keep5 hHeld bb1) (fun hHeld => ?_)
      clear hK K; (try simp only [Act.put, List.setIfInBounds_toArray, List.set_cons_zero, List.set_cons_succ])
      have R1 := hR0.below bb1
      have B1 := hB0.trans (bb1.mono hs0)
      have S1 := B1.size
      have Q1 : Hid (v0.heap.size ≤ v1.heap.size) := bb1.size
      clear bb1 hlo1
      (refine take_yes (i := 5) (d := some 19) (v := ?_) rfl rfl (by kernel_rfl) (by kernel_rfl) (by kernel_rfl) (by rfl) (fun _ _ _ h => h) ?_ (by assumption) ?_; rotate_left; focus ((intro w' hSw; (try dsimp only at hSw); go_simp) <;> with_reducible rfl)); (try simp only [Act.put, List.setIfInBounds_toArray, List.set_cons_zero, List.set_cons_succ])
      (refine take_yes (i := 6) (d := some 25) (v := ?_) rfl rfl (by kernel_rfl) (by kernel_rfl) (by kernel_rfl) (by rfl) (fun _ _ _ h => h) ?_ (by assumption) ?_; rotate_left; focus ((intro w' hSw; (try dsimp only at hSw); go_simp) <;> with_reducible rfl)); (try simp only [Act.put, List.setIfInBounds_toArray, List.set_cons_zero, List.set_cons_succ])
      (refine take_yes (i := 7) (d := some 26) (v := ?_) rfl rfl (by kernel_rfl) (by kernel_rfl) (by kernel_rfl) (by rfl) (fun _ _ _ h => h) ?_ (by assumption) ?_; rotate_left; focus ((intro w' hSw; (try dsimp only at hSw); go_simp) <;> with_reducible rfl)); (try simp only [Act.put, List.setIfInBounds_toArray, List.set_cons_zero, List.set_cons_succ])
      (refine take_yes (i := 8) (d := some 27) (v := ?_) rfl rfl (by kernel_rfl) (by kernel_rfl) (by kernel_rfl) (by rfl) (fun _ _ _ h => h) ?_ (by assumption) ?_; rotate_left; focus ((intro w' hSw; (try dsimp only at hSw); go_simp) <;> with_reducible rfl)); (try simp only [Act.put, List.setIfInBounds_toArray, List.set_cons_zero, List.set_cons_succ])
      refine wpAnyH_ready (rs := [9, 10]) (by kernel_rfl) (by simp) ?_
      refine AllReadyH.cons (o := _) rfl (fun K hK => ?_) (AllReadyH.cons (o := _) rfl (fun K hK => ?_) AllReadyH.nil)
      · go_simp
        obtain ⟨ja, hja⟩ : ∃ j, Hid (v1.heap.size = j) := ⟨_, rfl⟩
        obtain ⟨v2, hv2⟩ : ∃ v, Hid (v1.alloc (.cells #[.int .i64 0, .int .i64 0, .slice none 0 0] 30) = v) := ⟨_, rfl⟩
        have ra : v2.heap[ja]? = some (.cells #[.int .i64 0, .int .i64 0, .slice none 0 0] 30 (0, 0)) := by rw [← hv2.out, ← hja.out]; exact heap_alloc_new v1 _
        have bb2 : Below v1.heap.size v1 v2 := by rw [← hv2.out]; exact (Below.refl _ _).alloc (Nat.le_refl _) _
        have za : v1.heap.size = ja ∧ v2.heap.size = ja + 1 := by rw [← hv2.out, ← hja.out]; simp
        have Za := Lib.hid za
        rw [hv2.out, hja.out]
        refine hK.out _ _ (keep5 hHeld bb2) (fun hHeld => ?_)
        clear hK K; (try simp only [Act.put, List.setIfInBounds_toArray, List.set_cons_zero, List.set_cons_succ])
        have R2 := R1.below bb2
        have B2 := B1.trans (bb2.mono S1)
        have S2 := B2.size
        have hPA := hPA.below bb2
        have hPB := hPB.below bb2
        have Q2 : Hid (v1.heap.size ≤ v2.heap.size) := bb2.size
        clear bb2 za
        refine wpAnyH_ready (rs := [10]) (by kernel_rfl) (by simp) ?_
        refine AllReadyH.cons (o := _) rfl (fun K hK => ?_) AllReadyH.nil
        · go_simp
          obtain ⟨jd, hjd⟩ : ∃ j, Hid (v2.heap.size = j) := ⟨_, rfl⟩
          obtain ⟨v3, hv3⟩ : ∃ v, Hid (v2.alloc (.cells #[.int .i64 0, .int .i64 0, .slice none 0 0] 30) = v) := ⟨_, rfl⟩
          have rd : v3.heap[jd]? = some (.cells #[.int .i64 0, .int .i64 0, .slice none 0 0] 30 (0, 0)) := by rw [← hv3.out, ← hjd.out]; exact heap_alloc_new v2 _
          have bb3 : Below v2.heap.size v2 v3 := by rw [← hv3.out]; exact (Below.refl _ _).alloc (Nat.le_refl _) _
          have zd : v2.heap.size = jd ∧ v3.heap.size = jd + 1 := by rw [← hv3.out, ← hjd.out]; simp
          have Zd := Lib.hid zd
          rw [hv3.out, hjd.out]
          refine hK.out _ _ (keep5 hHeld bb3) (fun hHeld => ?_)
          clear hK K; (try simp only [Act.put, List.setIfInBounds_toArray, List.set_cons_zero, List.set_cons_succ])
          have R3 := R2.below bb3
          have B3 := B2.trans (bb3.mono S2)
          have S3 := B3.size
          have ra := (bb3.block ja (by have := Za.out; have := Q1.out; have := Q2.out; omega)).trans ra
          have hPA := hPA.below bb3
          have hPB := hPB.below bb3
          have Q3 : Hid (v2.heap.size ≤ v3.heap.size) := bb3.size
          clear bb3 zd
          have N : Hid (¬ jb = ja ∧ ¬ jb = jd ∧ ¬ b = ja ∧ ¬ b = jd ∧ ¬ ja = jd ∧ W.heap.size ≤ ja ∧ W.heap.size ≤ jd) := by have h1 := Za.out; have h2 := Zd.out; have h3 := Q1.out; have h4 := Q2.out; have h5 := Q3.out; refine ⟨?_, ?_, ?_, ?_, ?_, ?_, ?_⟩ <;> omega
          have NA : Hid ((ja < v0.heap.size ∨ v1.heap.size ≤ ja) ∧ (jd < v0.heap.size ∨ v1.heap.size ≤ jd)) := by have h1 := Za.out; have h2 := Zd.out; have h3 := Q1.out; have h4 := Q2.out; have h5 := Q3.out; refine ⟨?_, ?_⟩ <;> omega
          obtain ⟨n1_, n2_, n3_, n4_, n5_, n6_, n7_⟩ := N.out
          obtain ⟨na_, nd_⟩ := NA.out
          have hn1_ := hPA.len
          have hn2_ := hPB.len
          have HLA := Lib.hid hn1_
          have HLB := Lib.hid hn2_
          clear hn1_ hn2_
          have sa0 : v3.cell? ⟨ja, 0, none⟩ = some (.int .i64 0) := by rw [cell_of_row _ _ _ _ _ _ ra]; rfl
          have ga0 : v3.frozen? ⟨ja, 0, none⟩ = false := frozen_of_row _ _ _ _ _ ra
          have sa1 : v3.cell? ⟨ja, 1, none⟩ = some (.int .i64 0) := by rw [cell_of_row _ _ _ _ _ _ ra]; rfl
          have ga1 : v3.frozen? ⟨ja, 1, none⟩ = false := frozen_of_row _ _ _ _ _ ra
          have sa2 : v3.cell? ⟨ja, 2, none⟩ = some (.slice none 0 0) := by rw [cell_of_row _ _ _ _ _ _ ra]; rfl
          have ga2 : v3.frozen? ⟨ja, 2, none⟩ = false := frozen_of_row _ _ _ _ _ ra
          obtain ⟨v4, hv4⟩ : ∃ v, Hid ((((v3.setCell ⟨ja, 0, none⟩ (.int .i64 (wA w ⟨up, at'⟩))).setCell ⟨ja, 1, none⟩ (.int .i64 (hA h ⟨up, at'⟩))).setCell ⟨ja, 2, none⟩ (.slice A1 n1 c1)) = v) := ⟨_, rfl⟩
          refine wpAnyH_ready (rs := [11]) (by kernel_rfl) (by simp) ?_; refine AllReadyH.cons (o := _) rfl (fun K hK => ?_) AllReadyH.nil; go_simp
          rw [hv4.out]
          have ta := row_set (o := 2) (.slice A1 n1 c1) (row_set (o := 1) (.int .i64 (hA h ⟨up, at'⟩)) (row_set (o := 0) (.int .i64 (wA w ⟨up, at'⟩)) ra))
          rw [hv4.out] at ta
          have hfara : ∀ g, g ≠ ja → v4.heap[g]? = v3.heap[g]? := fun g hg => by rw [← hv4.out, row_far _ hg, row_far _ hg, row_far _ hg]
          refine hK.out _ _ ⟨cell_blk hHeld.1 (hfara jb n1_), cell_blk hHeld.2.1 (hfara jb n1_), cell_blk hHeld.2.2.1 (hfara jb n1_), cell_blk hHeld.2.2.2.1 (hfara b n3_), cell_blk hHeld.2.2.2.2 (hfara b n3_)⟩ (fun hHeld => ?_)
          clear hK K; (try simp only [Act.put, List.setIfInBounds_toArray, List.set_cons_zero, List.set_cons_succ])
          clear sa0 sa1 sa2 ga0 ga1 ga2
          have hPA := own_set (own_set (own_set hPA na_ 0 (.int .i64 (wA w ⟨up, at'⟩))) na_ 1 (.int .i64 (hA h ⟨up, at'⟩))) na_ 2 (.slice A1 n1 c1)
          have hPB := own_set (own_set (own_set hPB na_ 0 (.int .i64 (wA w ⟨up, at'⟩))) na_ 1 (.int .i64 (hA h ⟨up, at'⟩))) na_ 2 (.slice A1 n1 c1)
          rw [hv4.out] at hPA hPB
          have BB := below_set (below_set (below_set B3 n6_ (o := 0) (.int .i64 (wA w ⟨up, at'⟩))) n6_ (o := 1) (.int .i64 (hA h ⟨up, at'⟩))) n6_ (o := 2) (.slice A1 n1 c1)
          rw [hv4.out] at BB
          have rd := (hfara jd (fun e => n5_ e.symm)).trans rd
          have sd0 : v4.cell? ⟨jd, 0, none⟩ = some (.int .i64 0) := by rw [cell_of_row _ _ _ _ _ _ rd]; rfl
          have gd0 : v4.frozen? ⟨jd, 0, none⟩ = false := frozen_of_row _ _ _ _ _ rd
          have sd1 : v4.cell? ⟨jd, 1, none⟩ = some (.int .i64 0) := by rw [cell_of_row _ _ _ _ _ _ rd]; rfl
          have gd1 : v4.frozen? ⟨jd, 1, none⟩ = false := frozen_of_row _ _ _ _ _ rd
          have sd2 : v4.cell? ⟨jd, 2, none⟩ = some (.slice none 0 0) := by rw [cell_of_row _ _ _ _ _ _ rd]; rfl
          have gd2 : v4.frozen? ⟨jd, 2, none⟩ = false := frozen_of_row _ _ _ _ _ rd
          obtain ⟨v5, hv5⟩ : ∃ v, Hid ((((v4.setCell ⟨jd, 0, none⟩ (.int .i64 (wB w ⟨up, at'⟩))).setCell ⟨jd, 1, none⟩ (.int .i64 (hB h ⟨up, at'⟩))).setCell ⟨jd, 2, none⟩ (.slice A2 n2 c2)) = v) := ⟨_, rfl⟩
          refine wpAnyH_ready (rs := [12]) (by kernel_rfl) (by simp) ?_; refine AllReadyH.cons (o := _) rfl (fun K hK => ?_) AllReadyH.nil; go_simp
          rw [hv5.out]
          have td := row_set (o := 2) (.slice A2 n2 c2) (row_set (o := 1) (.int .i64 (hB h ⟨up, at'⟩)) (row_set (o := 0) (.int .i64 (wB w ⟨up, at'⟩)) rd))
          rw [hv5.out] at td
          have hfard : ∀ g, g ≠ jd → v5.heap[g]? = v4.heap[g]? := fun g hg => by rw [← hv5.out, row_far _ hg, row_far _ hg, row_far _ hg]
          refine hK.out _ _ ⟨cell_blk hHeld.1 (hfard jb n2_), cell_blk hHeld.2.1 (hfard jb n2_), cell_blk hHeld.2.2.1 (hfard jb n2_), cell_blk hHeld.2.2.2.1 (hfard b n4_), cell_blk hHeld.2.2.2.2 (hfard b n4_)⟩ (fun hHeld => ?_)
          clear hK K; (try simp only [Act.put, List.setIfInBounds_toArray, List.set_cons_zero, List.set_cons_succ])
          clear sd0 sd1 sd2 gd0 gd1 gd2
          have hPA := own_set (own_set (own_set hPA nd_ 0 (.int .i64 (wB w ⟨up, at'⟩))) nd_ 1 (.int .i64 (hB h ⟨up, at'⟩))) nd_ 2 (.slice A2 n2 c2)
          have hPB := own_set (own_set (own_set hPB nd_ 0 (.int .i64 (wB w ⟨up, at'⟩))) nd_ 1 (.int .i64 (hB h ⟨up, at'⟩))) nd_ 2 (.slice A2 n2 c2)
          rw [hv5.out] at hPA hPB
          have BB := below_set (below_set (below_set BB n7_ (o := 0) (.int .i64 (wB w ⟨up, at'⟩))) n7_ (o := 1) (.int .i64 (hB h ⟨up, at'⟩))) n7_ (o := 2) (.slice A2 n2 c2)
          rw [hv5.out] at BB
          have ra := (hfard ja n5_).trans ta
          have rd := td
          (refine take_yes (i := 13) (d := some 6) (v := ?_) rfl rfl (by kernel_rfl) (by kernel_rfl) (by kernel_rfl) (by rfl) (fun _ _ _ h => h) ?_ (by assumption) ?_; rotate_left; focus ((intro w' hSw; (try dsimp only at hSw); go_simp) <;> with_reducible rfl)); (try simp only [Act.put, List.setIfInBounds_toArray, List.set_cons_zero, List.set_cons_succ])
          refine wpAnyH_done (by kernel_rfl) ?_ _
          have ya0 : v5.cell? ⟨ja, 0, none⟩ = some (.int .i64 (wA w ⟨up, at'⟩)) := by rw [cell_of_row _ _ _ _ _ _ ra]; rfl
          have ya1 : v5.cell? ⟨ja, 1, none⟩ = some (.int .i64 (hA h ⟨up, at'⟩)) := by rw [cell_of_row _ _ _ _ _ _ ra]; rfl
          have ya2 : v5.cell? ⟨ja, 2, none⟩ = some (.slice A1 n1 c1) := by rw [cell_of_row _ _ _ _ _ _ ra]; rfl
          have yd0 : v5.cell? ⟨jd, 0, none⟩ = some (.int .i64 (wB w ⟨up, at'⟩)) := by rw [cell_of_row _ _ _ _ _ _ rd]; rfl
          have yd1 : v5.cell? ⟨jd, 1, none⟩ = some (.int .i64 (hB h ⟨up, at'⟩)) := by rw [cell_of_row _ _ _ _ _ _ rd]; rfl
          have yd2 : v5.cell? ⟨jd, 2, none⟩ = some (.slice A2 n2 c2) := by rw [cell_of_row _ _ _ _ _ _ rd]; rfl
          have hn1 : n1 ≤ 1048576 := by have h1 := HLA.out; have h2 := pA_len ⟨up, at'⟩ ps; have h3 := HLEN.out; omega
          have hn2 : n2 ≤ 1048576 := by have h1 := HLB.out; have h2 := pB_len ⟨up, at'⟩ ps; have h3 := HLEN.out; omega
          have hPA := hPA.rd
          have hPB := hPB.rd
          have BS := BB.size
          clear ra rd ta td hfara hfard hHeld n1_ n2_ n3_ n4_ n5_ n6_ n7_ na_ nd_
          go_wp2_with fail
          refine (ih _ _ _ _ _ (partA ⟨up, at'⟩ ps) _ hsA hPA hn1).mono ?_
          rintro e v6 ⟨rfl, bb6⟩
          have yd0 := keepcell yd0 bb6
          have yd1 := keepcell yd1 bb6
          have yd2 := keepcell yd2 bb6
          have hPB := hPB.below bb6
          have B6 := BB.trans (bb6.mono BS)
          have S6 := B6.size
          rcases hsa : canSew ⟨wA w ⟨up, at'⟩, hA h ⟨up, at'⟩, partA ⟨up, at'⟩ ps⟩ with _ | _
          · have HF := Lib.hid (show false = canSew ⟨w, h, ps⟩ by rw [← HC.out]; show false = (canSew ⟨wA w ⟨up, at'⟩, hA h ⟨up, at'⟩, partA ⟨up, at'⟩ ps⟩ && _); rw [hsa]; rfl)
            go_wp2
            go_ret
            exact ⟨ret_b HF.out, B6⟩
          have HF := Lib.hid (show canSew ⟨wB w ⟨up, at'⟩, hB h ⟨up, at'⟩, partB ⟨up, at'⟩ ps⟩ = canSew ⟨w, h, ps⟩ by rw [← HC.out]; show _ = (canSew ⟨wA w ⟨up, at'⟩, hA h ⟨up, at'⟩, partA ⟨up, at'⟩ ps⟩ && canSew ⟨wB w ⟨up, at'⟩, hB h ⟨up, at'⟩, partB ⟨up, at'⟩ ps⟩); rw [hsa]; rfl)
          go_wp2_with fail
          refine (ih _ _ _ _ _ (partB ⟨up, at'⟩ ps) _ hsB hPB hn2).mono ?_
          rintro e v7 ⟨rfl, bb7⟩
          rw [HF.out]
          have B7 := B6.trans (bb7.mono S6)
          go_wp2
          go_ret
          exact ⟨rfl, B7⟩
      · go_simp
        obtain ⟨jd, hjd⟩ : ∃ j, Hid (v1.heap.size = j) := ⟨_, rfl⟩
        obtain ⟨v2, hv2⟩ : ∃ v, Hid (v1.alloc (.cells #[.int .i64 0, .int .i64 0, .slice none 0 0] 30) = v) := ⟨_, rfl⟩
        have rd : v2.heap[jd]? = some (.cells #[.int .i64 0, .int .i64 0, .slice none 0 0] 30 (0, 0)) := by rw [← hv2.out, ← hjd.out]; exact heap_alloc_new v1 _
        have bb2 : Below v1.heap.size v1 v2 := by rw [← hv2.out]; exact (Below.refl _ _).alloc (Nat.le_refl _) _
        have zd : v1.heap.size = jd ∧ v2.heap.size = jd + 1 := by rw [← hv2.out, ← hjd.out]; simp
        have Zd := Lib.hid zd
        rw [hv2.out, hjd.out]
        refine hK.out _ _ (keep5 hHeld bb2) (fun hHeld => ?_)
        clear hK K; (try simp only [Act.put, List.setIfInBounds_toArray, List.set_cons_zero, List.set_cons_succ])
        have R2 := R1.below bb2
        have B2 := B1.trans (bb2.mono S1)
        have S2 := B2.size
        have hPA := hPA.below bb2
        have hPB := hPB.below bb2
        have Q2 : Hid (v1.heap.size ≤ v2.heap.size) := bb2.size
        clear bb2 zd
        refine wpAnyH_ready (rs := [9]) (by kernel_rfl) (by simp) ?_
        refine AllReadyH.cons (o := _) rfl (fun K hK => ?_) AllReadyH.nil
        · go_simp
          obtain ⟨ja, hja⟩ : ∃ j, Hid (v2.heap.size = j) := ⟨_, rfl⟩
          obtain ⟨v3, hv3⟩ : ∃ v, Hid (v2.alloc (.cells #[.int .i64 0, .int .i64 0, .slice none 0 0] 30) = v) := ⟨_, rfl⟩
          have ra : v3.heap[ja]? = some (.cells #[.int .i64 0, .int .i64 0, .slice none 0 0] 30 (0, 0)) := by rw [← hv3.out, ← hja.out]; exact heap_alloc_new v2 _
          have bb3 : Below v2.heap.size v2 v3 := by rw [← hv3.out]; exact (Below.refl _ _).alloc (Nat.le_refl _) _
          have za : v2.heap.size = ja ∧ v3.heap.size = ja + 1 := by rw [← hv3.out, ← hja.out]; simp
          have Za := Lib.hid za
          rw [hv3.out, hja.out]
          refine hK.out _ _ (keep5 hHeld bb3) (fun hHeld => ?_)
          clear hK K; (try simp only [Act.put, List.setIfInBounds_toArray, List.set_cons_zero, List.set_cons_succ])
          have R3 := R2.below bb3
          have B3 := B2.trans (bb3.mono S2)
          have S3 := B3.size
          have rd := (bb3.block jd (by have := Zd.out; have := Q1.out; have := Q2.out; omega)).trans rd
          have hPA := hPA.below bb3
          have hPB := hPB.below bb3
          have Q3 : Hid (v2.heap.size ≤ v3.heap.size) := bb3.size
          clear bb3 za
          have N : Hid (¬ jb = ja ∧ ¬ jb = jd ∧ ¬ b = ja ∧ ¬ b = jd ∧ ¬ ja = jd ∧ W.heap.size ≤ ja ∧ W.heap.size ≤ jd) := by have h1 := Za.out; have h2 := Zd.out; have h3 := Q1.out; have h4 := Q2.out; have h5 := Q3.out; refine ⟨?_, ?_, ?_, ?_, ?_, ?_, ?_⟩ <;> omega
          have NA : Hid ((ja < v0.heap.size ∨ v1.heap.size ≤ ja) ∧ (jd < v0.heap.size ∨ v1.heap.size ≤ jd)) := by have h1 := Za.out; have h2 := Zd.out; have h3 := Q1.out; have h4 := Q2.out; have h5 := Q3.out; refine ⟨?_, ?_⟩ <;> omega
          obtain ⟨n1_, n2_, n3_, n4_, n5_, n6_, n7_⟩ := N.out
          obtain ⟨na_, nd_⟩ := NA.out
          have hn1_ := hPA.len
          have hn2_ := hPB.len
          have HLA := Lib.hid hn1_
          have HLB := Lib.hid hn2_
          clear hn1_ hn2_
          have sa0 : v3.cell? ⟨ja, 0, none⟩ = some (.int .i64 0) := by rw [cell_of_row _ _ _ _ _ _ ra]; rfl
          have ga0 : v3.frozen? ⟨ja, 0, none⟩ = false := frozen_of_row _ _ _ _ _ ra
          have sa1 : v3.cell? ⟨ja, 1, none⟩ = some (.int .i64 0) := by rw [cell_of_row _ _ _ _ _ _ ra]; rfl
          have ga1 : v3.frozen? ⟨ja, 1, none⟩ = false := frozen_of_row _ _ _ _ _ ra
          have sa2 : v3.cell? ⟨ja, 2, none⟩ = some (.slice none 0 0) := by rw [cell_of_row _ _ _ _ _ _ ra]; rfl
          have ga2 : v3.frozen? ⟨ja, 2, none⟩ = false := frozen_of_row _ _ _ _ _ ra
          obtain ⟨v4, hv4⟩ : ∃ v, Hid ((((v3.setCell ⟨ja, 0, none⟩ (.int .i64 (wA w ⟨up, at'⟩))).setCell ⟨ja, 1, none⟩ (.int .i64 (hA h ⟨up, at'⟩))).setCell ⟨ja, 2, none⟩ (.slice A1 n1 c1)) = v) := ⟨_, rfl⟩
          refine wpAnyH_ready (rs := [11]) (by kernel_rfl) (by simp) ?_; refine AllReadyH.cons (o := _) rfl (fun K hK => ?_) AllReadyH.nil; go_simp
          rw [hv4.out]
          have ta := row_set (o := 2) (.slice A1 n1 c1) (row_set (o := 1) (.int .i64 (hA h ⟨up, at'⟩)) (row_set (o := 0) (.int .i64 (wA w ⟨up, at'⟩)) ra))
          rw [hv4.out] at ta
          have hfara : ∀ g, g ≠ ja → v4.heap[g]? = v3.heap[g]? := fun g hg => by rw [← hv4.out, row_far _ hg, row_far _ hg, row_far _ hg]
          refine hK.out _ _ ⟨cell_blk hHeld.1 (hfara jb n1_), cell_blk hHeld.2.1 (hfara jb n1_), cell_blk hHeld.2.2.1 (hfara jb n1_), cell_blk hHeld.2.2.2.1 (hfara b n3_), cell_blk hHeld.2.2.2.2 (hfara b n3_)⟩ (fun hHeld => ?_)
          clear hK K; (try simp only [Act.put, List.setIfInBounds_toArray, List.set_cons_zero, List.set_cons_succ])
          clear sa0 sa1 sa2 ga0 ga1 ga2
          have hPA := own_set (own_set (own_set hPA na_ 0 (.int .i64 (wA w ⟨up, at'⟩))) na_ 1 (.int .i64 (hA h ⟨up, at'⟩))) na_ 2 (.slice A1 n1 c1)
          have hPB := own_set (own_set (own_set hPB na_ 0 (.int .i64 (wA w ⟨up, at'⟩))) na_ 1 (.int .i64 (hA h ⟨up, at'⟩))) na_ 2 (.slice A1 n1 c1)
          rw [hv4.out] at hPA hPB
          have BB := below_set (below_set (below_set B3 n6_ (o := 0) (.int .i64 (wA w ⟨up, at'⟩))) n6_ (o := 1) (.int .i64 (hA h ⟨up, at'⟩))) n6_ (o := 2) (.slice A1 n1 c1)
          rw [hv4.out] at BB
          have rd := (hfara jd (fun e => n5_ e.symm)).trans rd
          have sd0 : v4.cell? ⟨jd, 0, none⟩ = some (.int .i64 0) := by rw [cell_of_row _ _ _ _ _ _ rd]; rfl
          have gd0 : v4.frozen? ⟨jd, 0, none⟩ = false := frozen_of_row _ _ _ _ _ rd
          have sd1 : v4.cell? ⟨jd, 1, none⟩ = some (.int .i64 0) := by rw [cell_of_row _ _ _ _ _ _ rd]; rfl
          have gd1 : v4.frozen? ⟨jd, 1, none⟩ = false := frozen_of_row _ _ _ _ _ rd
          have sd2 : v4.cell? ⟨jd, 2, none⟩ = some (.slice none 0 0) := by rw [cell_of_row _ _ _ _ _ _ rd]; rfl
          have gd2 : v4.frozen? ⟨jd, 2, none⟩ = false := frozen_of_row _ _ _ _ _ rd
          obtain ⟨v5, hv5⟩ : ∃ v, Hid ((((v4.setCell ⟨jd, 0, none⟩ (.int .i64 (wB w ⟨up, at'⟩))).setCell ⟨jd, 1, none⟩ (.int .i64 (hB h ⟨up, at'⟩))).setCell ⟨jd, 2, none⟩ (.slice A2 n2 c2)) = v) := ⟨_, rfl⟩
          refine wpAnyH_ready (rs := [12]) (by kernel_rfl) (by simp) ?_; refine AllReadyH.cons (o := _) rfl (fun K hK => ?_) AllReadyH.nil; go_simp
          rw [hv5.out]
          have td := row_set (o := 2) (.slice A2 n2 c2) (row_set (o := 1) (.int .i64 (hB h ⟨up, at'⟩)) (row_set (o := 0) (.int .i64 (wB w ⟨up, at'⟩)) rd))
          rw [hv5.out] at td
          have hfard : ∀ g, g ≠ jd → v5.heap[g]? = v4.heap[g]? := fun g hg => by rw [← hv5.out, row_far _ hg, row_far _ hg, row_far _ hg]
          refine hK.out _ _ ⟨cell_blk hHeld.1 (hfard jb n2_), cell_blk hHeld.2.1 (hfard jb n2_), cell_blk hHeld.2.2.1 (hfard jb n2_), cell_blk hHeld.2.2.2.1 (hfard b n4_), cell_blk hHeld.2.2.2.2 (hfard b n4_)⟩ (fun hHeld => ?_)
          clear hK K; (try simp only [Act.put, List.setIfInBounds_toArray, List.set_cons_zero, List.set_cons_succ])
          clear sd0 sd1 sd2 gd0 gd1 gd2
          have hPA := own_set (own_set (own_set hPA nd_ 0 (.int .i64 (wB w ⟨up, at'⟩))) nd_ 1 (.int .i64 (hB h ⟨up, at'⟩))) nd_ 2 (.slice A2 n2 c2)
          have hPB := own_set (own_set (own_set hPB nd_ 0 (.int .i64 (wB w ⟨up, at'⟩))) nd_ 1 (.int .i64 (hB h ⟨up, at'⟩))) nd_ 2 (.slice A2 n2 c2)
          rw [hv5.out] at hPA hPB
          have BB := below_set (below_set (below_set BB n7_ (o := 0) (.int .i64 (wB w ⟨up, at'⟩))) n7_ (o := 1) (.int .i64 (hB h ⟨up, at'⟩))) n7_ (o := 2) (.slice A2 n2 c2)
          rw [hv5.out] at BB
          have ra := (hfard ja n5_).trans ta
          have rd := td
          (refine take_yes (i := 13) (d := some 6) (v := ?_) rfl rfl (by kernel_rfl) (by kernel_rfl) (by kernel_rfl) (by rfl) (fun _ _ _ h => h) ?_ (by assumption) ?_; rotate_left; focus ((intro w' hSw; (try dsimp only at hSw); go_simp) <;> with_reducible rfl)); (try simp only [Act.put, List.setIfInBounds_toArray, List.set_cons_zero, List.set_cons_succ])
          refine wpAnyH_done (by kernel_rfl) ?_ _
          have ya0 : v5.cell? ⟨ja, 0, none⟩ = some (.int .i64 (wA w ⟨up, at'⟩)) := by rw [cell_of_row _ _ _ _ _ _ ra]; rfl
          have ya1 : v5.cell? ⟨ja, 1, none⟩ = some (.int .i64 (hA h ⟨up, at'⟩)) := by rw [cell_of_row _ _ _ _ _ _ ra]; rfl
          have ya2 : v5.cell? ⟨ja, 2, none⟩ = some (.slice A1 n1 c1) := by rw [cell_of_row _ _ _ _ _ _ ra]; rfl
          have yd0 : v5.cell? ⟨jd, 0, none⟩ = some (.int .i64 (wB w ⟨up, at'⟩)) := by rw [cell_of_row _ _ _ _ _ _ rd]; rfl
          have yd1 : v5.cell? ⟨jd, 1, none⟩ = some (.int .i64 (hB h ⟨up, at'⟩)) := by rw [cell_of_row _ _ _ _ _ _ rd]; rfl
          have yd2 : v5.cell? ⟨jd, 2, none⟩ = some (.slice A2 n2 c2) := by rw [cell_of_row _ _ _ _ _ _ rd]; rfl
          have hn1 : n1 ≤ 1048576 := by have h1 := HLA.out; have h2 := pA_len ⟨up, at'⟩ ps; have h3 := HLEN.out; omega
          have hn2 : n2 ≤ 1048576 := by have h1 := HLB.out; have h2 := pB_len ⟨up, at'⟩ ps; have h3 := HLEN.out; omega
          have hPA := hPA.rd
          have hPB := hPB.rd
          have BS := BB.size
          clear ra rd ta td hfara hfard hHeld n1_ n2_ n3_ n4_ n5_ n6_ n7_ na_ nd_
          go_wp2_with fail
          refine (ih _ _ _ _ _ (partA ⟨up, at'⟩ ps) _ hsA hPA hn1).mono ?_
          rintro e v6 ⟨rfl, bb6⟩
          have yd0 := keepcell yd0 bb6
          have yd1 := keepcell yd1 bb6
          have yd2 := keepcell yd2 bb6
          have hPB := hPB.below bb6
          have B6 := BB.trans (bb6.mono BS)
          have S6 := B6.size
          rcases hsa : canSew ⟨wA w ⟨up, at'⟩, hA h ⟨up, at'⟩, partA ⟨up, at'⟩ ps⟩ with _ | _
          · have HF := Lib.hid (show false = canSew ⟨w, h, ps⟩ by rw [← HC.out]; show false = (canSew ⟨wA w ⟨up, at'⟩, hA h ⟨up, at'⟩, partA ⟨up, at'⟩ ps⟩ && _); rw [hsa]; rfl)
            go_wp2
            go_ret
            exact ⟨ret_b HF.out, B6⟩
          have HF := Lib.hid (show canSew ⟨wB w ⟨up, at'⟩, hB h ⟨up, at'⟩, partB ⟨up, at'⟩ ps⟩ = canSew ⟨w, h, ps⟩ by rw [← HC.out]; show _ = (canSew ⟨wA w ⟨up, at'⟩, hA h ⟨up, at'⟩, partA ⟨up, at'⟩ ps⟩ && canSew ⟨wB w ⟨up, at'⟩, hB h ⟨up, at'⟩, partB ⟨up, at'⟩ ps⟩); rw [hsa]; rfl)
          go_wp2_with fail
          refine (ih _ _ _ _ _ (partB ⟨up, at'⟩ ps) _ hsB hPB hn2).mono ?_
          rintro e v7 ⟨rfl, bb7⟩
          rw [HF.out]
          have B7 := B6.trans (bb7.mono S6)
          go_wp2
          go_ret
          exact ⟨rfl, B7⟩
    · go_simp
      obtain ⟨ja, hja⟩ : ∃ j, Hid (v0.heap.size = j) := ⟨_, rfl⟩
      obtain ⟨v1, hv1⟩ : ∃ v, Hid (v0.alloc (.cells #[.int .i64 0, .int .i64 0, .slice none 0 0] 30) = v) := ⟨_, rfl⟩
      have ra : v1.heap[ja]? = some (.cells #[.int .i64 0, .int .i64 0, .slice none 0 0] 30 (0, 0)) := by rw [← hv1.out, ← hja.out]; exact heap_alloc_new v0 _
      have bb1 : Below v0.heap.size v0 v1 := by rw [← hv1.out]; exact (Below.refl _ _).alloc (Nat.le_refl _) _
      have za : v0.heap.size = ja ∧ v1.heap.size = ja + 1 := by rw [← hv1.out, ← hja.out]; simp
      have Za := Lib.hid za
      rw [hv1.out, hja.out]
      refine hK.out _ _ (keep5 hHeld bb1) (fun hHeld => ?_)
      clear hK K; (try simp only [Act.put, List.setIfInBounds_toArray, List.set_cons_zero, List.set_cons_succ])
      have R1 := hR0.below bb1
      have B1 := hB0.trans (bb1.mono hs0)
      have S1 := B1.size
      have Q1 : Hid (v0.heap.size ≤ v1.heap.size) := bb1.size
      clear bb1 za
      refine wpAnyH_ready (rs := [4, 10]) (by kernel_rfl) (by simp) ?_
      refine AllReadyH.cons (o := _) rfl (fun K hK => ?_) (AllReadyH.cons (o := _) rfl (fun K hK => ?_) AllReadyH.nil)
      · go_simp
        refine (splitS_any w h A n c ps up at' _ R1 hN HK.out).mono ?_
        rintro e v2 ⟨A1, n1, c1, A2, n2, c2, rfl, hPA, hPB, bb2⟩
        have hlo2 := bb2.size
        refine hK.out _ _ (keep5 hHeld bb2) (fun hHeld => ?_)
        clear hK K; (try simp only [Act.put, List.setIfInBounds_toArray, List.set_cons_zero, List.set_cons_succ])
        have R2 := R1.below bb2
        have B2 := B1.trans (bb2.mono S1)
        have S2 := B2.size
        have ra := (bb2.block ja (by have := Za.out; have := Q1.out; omega)).trans ra
        have Q2 : Hid (v1.heap.size ≤ v2.heap.size) := bb2.size
        clear bb2 hlo2
        (refine take_yes (i := 5) (d := some 19) (v := ?_) rfl rfl (by kernel_rfl) (by kernel_rfl) (by kernel_rfl) (by rfl) (fun _ _ _ h => h) ?_ (by assumption) ?_; rotate_left; focus ((intro w' hSw; (try dsimp only at hSw); go_simp) <;> with_reducible rfl)); (try simp only [Act.put, List.setIfInBounds_toArray, List.set_cons_zero, List.set_cons_succ])
        (refine take_yes (i := 6) (d := some 25) (v := ?_) rfl rfl (by kernel_rfl) (by kernel_rfl) (by kernel_rfl) (by rfl) (fun _ _ _ h => h) ?_ (by assumption) ?_; rotate_left; focus ((intro w' hSw; (try dsimp only at hSw); go_simp) <;> with_reducible rfl)); (try simp only [Act.put, List.setIfInBounds_toArray, List.set_cons_zero, List.set_cons_succ])
        (refine take_yes (i := 7) (d := some 26) (v := ?_) rfl rfl (by kernel_rfl) (by kernel_rfl) (by kernel_rfl) (by rfl) (fun _ _ _ h => h) ?_ (by assumption) ?_; rotate_left; focus ((intro w' hSw; (try dsimp only at hSw); go_simp) <;> with_reducible rfl)); (try simp only [Act.put, List.setIfInBounds_toArray, List.set_cons_zero, List.set_cons_succ])
        (refine take_yes (i := 8) (d := some 27) (v := ?_) rfl rfl (by kernel_rfl) (by kernel_rfl) (by kernel_rfl) (by rfl) (fun _ _ _ h => h) ?_ (by assumption) ?_; rotate_left; focus ((intro w' hSw; (try dsimp only at hSw); go_simp) <;> with_reducible rfl)); (try simp only [Act.put, List.setIfInBounds_toArray, List.set_cons_zero, List.set_cons_succ])
        refine wpAnyH_ready (rs := [10]) (by kernel_rfl) (by simp) ?_
        refine AllReadyH.cons (o := _) rfl (fun K hK => ?_) AllReadyH.nil
        · go_simp
          obtain ⟨jd, hjd⟩ : ∃ j, Hid (v2.heap.size = j) := ⟨_, rfl⟩
          obtain ⟨v3, hv3⟩ : ∃ v, Hid (v2.alloc (.cells #[.int .i64 0, .int .i64 0, .slice none 0 0] 30) = v) := ⟨_, rfl⟩
          have rd : v3.heap[jd]? = some (.cells #[.int .i64 0, .int .i64 0, .slice none 0 0] 30 (0, 0)) := by rw [← hv3.out, ← hjd.out]; exact heap_alloc_new v2 _
          have bb3 : Below v2.heap.size v2 v3 := by rw [← hv3.out]; exact (Below.refl _ _).alloc (Nat.le_refl _) _
          have zd : v2.heap.size = jd ∧ v3.heap.size = jd + 1 := by rw [← hv3.out, ← hjd.out]; simp
          have Zd := Lib.hid zd
          rw [hv3.out, hjd.out]
          refine hK.out _ _ (keep5 hHeld bb3) (fun hHeld => ?_)
          clear hK K; (try simp only [Act.put, List.setIfInBounds_toArray, List.set_cons_zero, List.set_cons_succ])
          have R3 := R2.below bb3
          have B3 := B2.trans (bb3.mono S2)
          have S3 := B3.size
          have ra := (bb3.block ja (by have := Za.out; have := Q1.out; have := Q2.out; omega)).trans ra
          have hPA := hPA.below bb3
          have hPB := hPB.below bb3
          have Q3 : Hid (v2.heap.size ≤ v3.heap.size) := bb3.size
          clear bb3 zd
          have N : Hid (¬ jb = ja ∧ ¬ jb = jd ∧ ¬ b = ja ∧ ¬ b = jd ∧ ¬ ja = jd ∧ W.heap.size ≤ ja ∧ W.heap.size ≤ jd) := by have h1 := Za.out; have h2 := Zd.out; have h3 := Q1.out; have h4 := Q2.out; have h5 := Q3.out; refine ⟨?_, ?_, ?_, ?_, ?_, ?_, ?_⟩ <;> omega
          have NA : Hid ((ja < v1.heap.size ∨ v2.heap.size ≤ ja) ∧ (jd < v1.heap.size ∨ v2.heap.size ≤ jd)) := by have h1 := Za.out; have h2 := Zd.out; have h3 := Q1.out; have h4 := Q2.out; have h5 := Q3.out; refine ⟨?_, ?_⟩ <;> omega
          obtain ⟨n1_, n2_, n3_, n4_, n5_, n6_, n7_⟩ := N.out
          obtain ⟨na_, nd_⟩ := NA.out
          have hn1_ := hPA.len
          have hn2_ := hPB.len
          have HLA := Lib.hid hn1_
          have HLB := Lib.hid hn2_
          clear hn1_ hn2_
          have sa0 : v3.cell? ⟨ja, 0, none⟩ = some (.int .i64 0) := by rw [cell_of_row _ _ _ _ _ _ ra]; rfl
          have ga0 : v3.frozen? ⟨ja, 0, none⟩ = false := frozen_of_row _ _ _ _ _ ra
          have sa1 : v3.cell? ⟨ja, 1, none⟩ = some (.int .i64 0) := by rw [cell_of_row _ _ _ _ _ _ ra]; rfl
          have ga1 : v3.frozen? ⟨ja, 1, none⟩ = false := frozen_of_row _ _ _ _ _ ra
          have sa2 : v3.cell? ⟨ja, 2, none⟩ = some (.slice none 0 0) := by rw [cell_of_row _ _ _ _ _ _ ra]; rfl
          have ga2 : v3.frozen? ⟨ja, 2, none⟩ = false := frozen_of_row _ _ _ _ _ ra
          obtain ⟨v4, hv4⟩ : ∃ v, Hid ((((v3.setCell ⟨ja, 0, none⟩ (.int .i64 (wA w ⟨up, at'⟩))).setCell ⟨ja, 1, none⟩ (.int .i64 (hA h ⟨up, at'⟩))).setCell ⟨ja, 2, none⟩ (.slice A1 n1 c1)) = v) := ⟨_, rfl⟩
          refine wpAnyH_ready (rs := [11]) (by kernel_rfl) (by simp) ?_; refine AllReadyH.cons (o := _) rfl (fun K hK => ?_) AllReadyH.nil; go_simp
          rw [hv4.out]
          have ta := row_set (o := 2) (.slice A1 n1 c1) (row_set (o := 1) (.int .i64 (hA h ⟨up, at'⟩)) (row_set (o := 0) (.int .i64 (wA w ⟨up, at'⟩)) ra))
          rw [hv4.out] at ta
          have hfara : ∀ g, g ≠ ja → v4.heap[g]? = v3.heap[g]? := fun g hg => by rw [← hv4.out, row_far _ hg, row_far _ hg, row_far _ hg]
          refine hK.out _ _ ⟨cell_blk hHeld.1 (hfara jb n1_), cell_blk hHeld.2.1 (hfara jb n1_), cell_blk hHeld.2.2.1 (hfara jb n1_), cell_blk hHeld.2.2.2.1 (hfara b n3_), cell_blk hHeld.2.2.2.2 (hfara b n3_)⟩ (fun hHeld => ?_)
          clear hK K; (try simp only [Act.put, List.setIfInBounds_toArray, List.set_cons_zero, List.set_cons_succ])
          clear sa0 sa1 sa2 ga0 ga1 ga2
          have hPA := own_set (own_set (own_set hPA na_ 0 (.int .i64 (wA w ⟨up, at'⟩))) na_ 1 (.int .i64 (hA h ⟨up, at'⟩))) na_ 2 (.slice A1 n1 c1)
          have hPB := own_set (own_set (own_set hPB na_ 0 (.int .i64 (wA w ⟨up, at'⟩))) na_ 1 (.int .i64 (hA h ⟨up, at'⟩))) na_ 2 (.slice A1 n1 c1)
          rw [hv4.out] at hPA hPB
          have BB := below_set (below_set (below_set B3 n6_ (o := 0) (.int .i64 (wA w ⟨up, at'⟩))) n6_ (o := 1) (.int .i64 (hA h ⟨up, at'⟩))) n6_ (o := 2) (.slice A1 n1 c1)
          rw [hv4.out] at BB
          have rd := (hfara jd (fun e => n5_ e.symm)).trans rd
          have sd0 : v4.cell? ⟨jd, 0, none⟩ = some (.int .i64 0) := by rw [cell_of_row _ _ _ _ _ _ rd]; rfl
          have gd0 : v4.frozen? ⟨jd, 0, none⟩ = false := frozen_of_row _ _ _ _ _ rd
          have sd1 : v4.cell? ⟨jd, 1, none⟩ = some (.int .i64 0) := by rw [cell_of_row _ _ _ _ _ _ rd]; rfl
          have gd1 : v4.frozen? ⟨jd, 1, none⟩ = false := frozen_of_row _ _ _ _ _ rd
          have sd2 : v4.cell? ⟨jd, 2, none⟩ = some (.slice none 0 0) := by rw [cell_of_row _ _ _ _ _ _ rd]; rfl
          have gd2 : v4.frozen? ⟨jd, 2, none⟩ = false := frozen_of_row _ _ _ _ _ rd
          obtain ⟨v5, hv5⟩ : ∃ v, Hid ((((v4.setCell ⟨jd, 0, none⟩ (.int .i64 (wB w ⟨up, at'⟩))).setCell ⟨jd, 1, none⟩ (.int .i64 (hB h ⟨up, at'⟩))).setCell ⟨jd, 2, none⟩ (.slice A2 n2 c2)) = v) := ⟨_, rfl⟩
          refine wpAnyH_ready (rs := [12]) (by kernel_rfl) (by simp) ?_; refine AllReadyH.cons (o := _) rfl (fun K hK => ?_) AllReadyH.nil; go_simp
          rw [hv5.out]
          have td := row_set (o := 2) (.slice A2 n2 c2) (row_set (o := 1) (.int .i64 (hB h ⟨up, at'⟩)) (row_set (o := 0) (.int .i64 (wB w ⟨up, at'⟩)) rd))
          rw [hv5.out] at td
          have hfard : ∀ g, g ≠ jd → v5.heap[g]? = v4.heap[g]? := fun g hg => by rw [← hv5.out, row_far _ hg, row_far _ hg, row_far _ hg]
          refine hK.out _ _ ⟨cell_blk hHeld.1 (hfard jb n2_), cell_blk hHeld.2.1 (hfard jb n2_), cell_blk hHeld.2.2.1 (hfard jb n2_), cell_blk hHeld.2.2.2.1 (hfard b n4_), cell_blk hHeld.2.2.2.2 (hfard b n4_)⟩ (fun hHeld => ?_)
          clear hK K; (try simp only [Act.put, List.setIfInBounds_toArray, List.set_cons_zero, List.set_cons_succ])
          clear sd0 sd1 sd2 gd0 gd1 gd2
          have hPA := own_set (own_set (own_set hPA nd_ 0 (.int .i64 (wB w ⟨up, at'⟩))) nd_ 1 (.int .i64 (hB h ⟨up, at'⟩))) nd_ 2 (.slice A2 n2 c2)
          have hPB := own_set (own_set (own_set hPB nd_ 0 (.int .i64 (wB w ⟨up, at'⟩))) nd_ 1 (.int .i64 (hB h ⟨up, at'⟩))) nd_ 2 (.slice A2 n2 c2)
          rw [hv5.out] at hPA hPB
          have BB := below_set (below_set (below_set BB n7_ (o := 0) (.int .i64 (wB w ⟨up, at'⟩))) n7_ (o := 1) (.int .i64 (hB h ⟨up, at'⟩))) n7_ (o := 2) (.slice A2 n2 c2)
          rw [hv5.out] at BB
          have ra := (hfard ja n5_).trans ta
          have rd := td
          (refine take_yes (i := 13) (d := some 6) (v := ?_) rfl rfl (by kernel_rfl) (by kernel_rfl) (by kernel_rfl) (by rfl) (fun _ _ _ h => h) ?_ (by assumption) ?_; rotate_left; focus ((intro w' hSw; (try dsimp only at hSw); go_simp) <;> with_reducible rfl)); (try simp only [Act.put, List.setIfInBounds_toArray, List.set_cons_zero, List.set_cons_succ])
          refine wpAnyH_done (by kernel_rfl) ?_ _
          have ya0 : v5.cell? ⟨ja, 0, none⟩ = some (.int .i64 (wA w ⟨up, at'⟩)) := by rw [cell_of_row _ _ _ _ _ _ ra]; rfl
          have ya1 : v5.cell? ⟨ja, 1, none⟩ = some (.int .i64 (hA h ⟨up, at'⟩)) := by rw [cell_of_row _ _ _ _ _ _ ra]; rfl
          have ya2 : v5.cell? ⟨ja, 2, none⟩ = some (.slice A1 n1 c1) := by rw [cell_of_row _ _ _ _ _ _ ra]; rfl
          have yd0 : v5.cell? ⟨jd, 0, none⟩ = some (.int .i64 (wB w ⟨up, at'⟩)) := by rw [cell_of_row _ _ _ _ _ _ rd]; rfl
          have yd1 : v5.cell? ⟨jd, 1, none⟩ = some (.int .i64 (hB h ⟨up, at'⟩)) := by rw [cell_of_row _ _ _ _ _ _ rd]; rfl
          have yd2 : v5.cell? ⟨jd, 2, none⟩ = some (.slice A2 n2 c2) := by rw [cell_of_row _ _ _ _ _ _ rd]; rfl
          have hn1 : n1 ≤ 1048576 := by have h1 := HLA.out; have h2 := pA_len ⟨up, at'⟩ ps; have h3 := HLEN.out; omega
          have hn2 : n2 ≤ 1048576 := by have h1 := HLB.out; have h2 := pB_len ⟨up, at'⟩ ps; have h3 := HLEN.out; omega
          have hPA := hPA.rd
          have hPB := hPB.rd
          have BS := BB.size
          clear ra rd ta td hfara hfard hHeld n1_ n2_ n3_ n4_ n5_ n6_ n7_ na_ nd_
          go_wp2_with fail
          refine (ih _ _ _ _ _ (partA ⟨up, at'⟩ ps) _ hsA hPA hn1).mono ?_
          rintro e v6 ⟨rfl, bb6⟩
          have yd0 := keepcell yd0 bb6
          have yd1 := keepcell yd1 bb6
          have yd2 := keepcell yd2 bb6
          have hPB := hPB.below bb6
          have B6 := BB.trans (bb6.mono BS)
          have S6 := B6.size
          rcases hsa : canSew ⟨wA w ⟨up, at'⟩, hA h ⟨up, at'⟩, partA ⟨up, at'⟩ ps⟩ with _ | _
          · have HF := Lib.hid (show false = canSew ⟨w, h, ps⟩ by rw [← HC.out]; show false = (canSew ⟨wA w ⟨up, at'⟩, hA h ⟨up, at'⟩, partA ⟨up, at'⟩ ps⟩ && _); rw [hsa]; rfl)
            go_wp2
            go_ret
            exact ⟨ret_b HF.out, B6⟩
          have HF := Lib.hid (show canSew ⟨wB w ⟨up, at'⟩, hB h ⟨up, at'⟩, partB ⟨up, at'⟩ ps⟩ = canSew ⟨w, h, ps⟩ by rw [← HC.out]; show _ = (canSew ⟨wA w ⟨up, at'⟩, hA h ⟨up, at'⟩, partA ⟨up, at'⟩ ps⟩ && canSew ⟨wB w ⟨up, at'⟩, hB h ⟨up, at'⟩, partB ⟨up, at'⟩ ps⟩); rw [hsa]; rfl)
          go_wp2_with fail
          refine (ih _ _ _ _ _ (partB ⟨up, at'⟩ ps) _ hsB hPB hn2).mono ?_
          rintro e v7 ⟨rfl, bb7⟩
          rw [HF.out]
          have B7 := B6.trans (bb7.mono S6)
          go_wp2
          go_ret
          exact ⟨rfl, B7⟩
      · go_simp
        obtain ⟨jd, hjd⟩ : ∃ j, Hid (v1.heap.size = j) := ⟨_, rfl⟩
        obtain ⟨v2, hv2⟩ : ∃ v, Hid (v1.alloc (.cells #[.int .i64 0, .int .i64 0, .slice none 0 0] 30) = v) := ⟨_, rfl⟩
        have rd : v2.heap[jd]? = some (.cells #[.int .i64 0, .int .i64 0, .slice none 0 0] 30 (0, 0)) := by rw [← hv2.out, ← hjd.out]; exact heap_alloc_new v1 _
        have bb2 : Below v1.heap.size v1 v2 := by rw [← hv2.out]; exact (Below.refl _ _).alloc (Nat.le_refl _) _
        have zd : v1.heap.size = jd ∧ v2.heap.size = jd + 1 := by rw [← hv2.out, ← hjd.out]; simp
        have Zd := Lib.hid zd
        rw [hv2.out, hjd.out]
        refine hK.out _ _ (keep5 hHeld bb2) (fun hHeld => ?_)
        clear hK K; (try simp only [Act.put, List.setIfInBounds_toArray, List.set_cons_zero, List.set_cons_succ])
        have R2 := R1.below bb2
        have B2 := B1.trans (bb2.mono S1)
        have S2 := B2.size
        have ra := (bb2.block ja (by have := Za.out; have := Q1.out; omega)).trans ra
        have Q2 : Hid (v1.heap.size ≤ v2.heap.size) := bb2.size
        clear bb2 zd
        refine wpAnyH_ready (rs := [4]) (by kernel_rfl) (by simp) ?_
        refine AllReadyH.cons (o := _) rfl (fun K hK => ?_) AllReadyH.nil
        · go_simp
          refine (splitS_any w h A n c ps up at' _ R2 hN HK.out).mono ?_
          rintro e v3 ⟨A1, n1, c1, A2, n2, c2, rfl, hPA, hPB, bb3⟩
          have hlo3 := bb3.size
          refine hK.out _ _ (keep5 hHeld bb3) (fun hHeld => ?_)
          clear hK K; (try simp only [Act.put, List.setIfInBounds_toArray, List.set_cons_zero, List.set_cons_succ])
          have R3 := R2.below bb3
          have B3 := B2.trans (bb3.mono S2)
          have S3 := B3.size
          have ra := (bb3.block ja (by have := Za.out; have := Q1.out; have := Q2.out; omega)).trans ra
          have rd := (bb3.block jd (by have := Zd.out; have := Q1.out; have := Q2.out; omega)).trans rd
          have Q3 : Hid (v2.heap.size ≤ v3.heap.size) := bb3.size
          clear bb3 hlo3
          (refine take_yes (i := 5) (d := some 19) (v := ?_) rfl rfl (by kernel_rfl) (by kernel_rfl) (by kernel_rfl) (by rfl) (fun _ _ _ h => h) ?_ (by assumption) ?_; rotate_left; focus ((intro w' hSw; (try dsimp only at hSw); go_simp) <;> with_reducible rfl)); (try simp only [Act.put, List.setIfInBounds_toArray, List.set_cons_zero, List.set_cons_succ])
          (refine take_yes (i := 6) (d := some 25) (v := ?_) rfl rfl (by kernel_rfl) (by kernel_rfl) (by kernel_rfl) (by rfl) (fun _ _ _ h => h) ?_ (by assumption) ?_; rotate_left; focus ((intro w' hSw; (try dsimp only at hSw); go_simp) <;> with_reducible rfl)); (try simp only [Act.put, List.setIfInBounds_toArray, List.set_cons_zero, List.set_cons_succ])
          (refine take_yes (i := 7) (d := some 26) (v := ?_) rfl rfl (by kernel_rfl) (by kernel_rfl) (by kernel_rfl) (by rfl) (fun _ _ _ h => h) ?_ (by assumption) ?_; rotate_left; focus ((intro w' hSw; (try dsimp only at hSw); go_simp) <;> with_reducible rfl)); (try simp only [Act.put, List.setIfInBounds_toArray, List.set_cons_zero, List.set_cons_succ])
          (refine take_yes (i := 8) (d := some 27) (v := ?_) rfl rfl (by kernel_rfl) (by kernel_rfl) (by kernel_rfl) (by rfl) (fun _ _ _ h => h) ?_ (by assumption) ?_; rotate_left; focus ((intro w' hSw; (try dsimp only at hSw); go_simp) <;> with_reducible rfl)); (try simp only [Act.put, List.setIfInBounds_toArray, List.set_cons_zero, List.set_cons_succ])
          have N : Hid (¬ jb = ja ∧ ¬ jb = jd ∧ ¬ b = ja ∧ ¬ b = jd ∧ ¬ ja = jd ∧ W.heap.size ≤ ja ∧ W.heap.size ≤ jd) := by have h1 := Za.out; have h2 := Zd.out; have h3 := Q1.out; have h4 := Q2.out; have h5 := Q3.out; refine ⟨?_, ?_, ?_, ?_, ?_, ?_, ?_⟩ <;> omega
          have NA : Hid ((ja < v2.heap.size ∨ v3.heap.size ≤ ja) ∧ (jd < v2.heap.size ∨ v3.heap.size ≤ jd)) := by have h1 := Za.out; have h2 := Zd.out; have h3 := Q1.out; have h4 := Q2.out; have h5 := Q3.out; refine ⟨?_, ?_⟩ <;> omega
          obtain ⟨n1_, n2_, n3_, n4_, n5_, n6_, n7_⟩ := N.out
          obtain ⟨na_, nd_⟩ := NA.out
          have hn1_ := hPA.len
          have hn2_ := hPB.len
          have HLA := Lib.hid hn1_
          have HLB := Lib.hid hn2_
          clear hn1_ hn2_
          have sa0 : v3.cell? ⟨ja, 0, none⟩ = some (.int .i64 0) := by rw [cell_of_row _ _ _ _ _ _ ra]; rfl
          have ga0 : v3.frozen? ⟨ja, 0, none⟩ = false := frozen_of_row _ _ _ _ _ ra
          have sa1 : v3.cell? ⟨ja, 1, none⟩ = some (.int .i64 0) := by rw [cell_of_row _ _ _ _ _ _ ra]; rfl
          have ga1 : v3.frozen? ⟨ja, 1, none⟩ = false := frozen_of_row _ _ _ _ _ ra
          have sa2 : v3.cell? ⟨ja, 2, none⟩ = some (.slice none 0 0) := by rw [cell_of_row _ _ _ _ _ _ ra]; rfl
          have ga2 : v3.frozen? ⟨ja, 2, none⟩ = false := frozen_of_row _ _ _ _ _ ra
          obtain ⟨v4, hv4⟩ : ∃ v, Hid ((((v3.setCell ⟨ja, 0, none⟩ (.int .i64 (wA w ⟨up, at'⟩))).setCell ⟨ja, 1, none⟩ (.int .i64 (hA h ⟨up, at'⟩))).setCell ⟨ja, 2, none⟩ (.slice A1 n1 c1)) = v) := ⟨_, rfl⟩
          refine wpAnyH_ready (rs := [11]) (by kernel_rfl) (by simp) ?_; refine AllReadyH.cons (o := _) rfl (fun K hK => ?_) AllReadyH.nil; go_simp
          rw [hv4.out]
          have ta := row_set (o := 2) (.slice A1 n1 c1) (row_set (o := 1) (.int .i64 (hA h ⟨up, at'⟩)) (row_set (o := 0) (.int .i64 (wA w ⟨up, at'⟩)) ra))
          rw [hv4.out] at ta
          have hfara : ∀ g, g ≠ ja → v4.heap[g]? = v3.heap[g]? := fun g hg => by rw [← hv4.out, row_far _ hg, row_far _ hg, row_far _ hg]
          refine hK.out _ _ ⟨cell_blk hHeld.1 (hfara jb n1_), cell_blk hHeld.2.1 (hfara jb n1_), cell_blk hHeld.2.2.1 (hfara jb n1_), cell_blk hHeld.2.2.2.1 (hfara b n3_), cell_blk hHeld.2.2.2.2 (hfara b n3_)⟩ (fun hHeld => ?_)
          clear hK K; (try simp only [Act.put, List.setIfInBounds_toArray, List.set_cons_zero, List.set_cons_succ])
          clear sa0 sa1 sa2 ga0 ga1 ga2
          have hPA := own_set (own_set (own_set hPA na_ 0 (.int .i64 (wA w ⟨up, at'⟩))) na_ 1 (.int .i64 (hA h ⟨up, at'⟩))) na_ 2 (.slice A1 n1 c1)
          have hPB := own_set (own_set (own_set hPB na_ 0 (.int .i64 (wA w ⟨up, at'⟩))) na_ 1 (.int .i64 (hA h ⟨up, at'⟩))) na_ 2 (.slice A1 n1 c1)
          rw [hv4.out] at hPA hPB
          have BB := below_set (below_set (below_set B3 n6_ (o := 0) (.int .i64 (wA w ⟨up, at'⟩))) n6_ (o := 1) (.int .i64 (hA h ⟨up, at'⟩))) n6_ (o := 2) (.slice A1 n1 c1)
          rw [hv4.out] at BB
          have rd := (hfara jd (fun e => n5_ e.symm)).trans rd
          have sd0 : v4.cell? ⟨jd, 0, none⟩ = some (.int .i64 0) := by rw [cell_of_row _ _ _ _ _ _ rd]; rfl
          have gd0 : v4.frozen? ⟨jd, 0, none⟩ = false := frozen_of_row _ _ _ _ _ rd
          have sd1 : v4.cell? ⟨jd, 1, none⟩ = some (.int .i64 0) := by rw [cell_of_row _ _ _ _ _ _ rd]; rfl
          have gd1 : v4.frozen? ⟨jd, 1, none⟩ = false := frozen_of_row _ _ _ _ _ rd
          have sd2 : v4.cell? ⟨jd, 2, none⟩ = some (.slice none 0 0) := by rw [cell_of_row _ _ _ _ _ _ rd]; rfl
          have gd2 : v4.frozen? ⟨jd, 2, none⟩ = false := frozen_of_row _ _ _ _ _ rd
          obtain ⟨v5, hv5⟩ : ∃ v, Hid ((((v4.setCell ⟨jd, 0, none⟩ (.int .i64 (wB w ⟨up, at'⟩))).setCell ⟨jd, 1, none⟩ (.int .i64 (hB h ⟨up, at'⟩))).setCell ⟨jd, 2, none⟩ (.slice A2 n2 c2)) = v) := ⟨_, rfl⟩
          refine wpAnyH_ready (rs := [12]) (by kernel_rfl) (by simp) ?_; refine AllReadyH.cons (o := _) rfl (fun K hK => ?_) AllReadyH.nil; go_simp
          rw [hv5.out]
          have td := row_set (o := 2) (.slice A2 n2 c2) (row_set (o := 1) (.int .i64 (hB h ⟨up, at'⟩)) (row_set (o := 0) (.int .i64 (wB w ⟨up, at'⟩)) rd))
          rw [hv5.out] at td
          have hfard : ∀ g, g ≠ jd → v5.heap[g]? = v4.heap[g]? := fun g hg => by rw [← hv5.out, row_far _ hg, row_far _ hg, row_far _ hg]
          refine hK.out _ _ ⟨cell_blk hHeld.1 (hfard jb n2_), cell_blk hHeld.2.1 (hfard jb n2_), cell_blk hHeld.2.2.1 (hfard jb n2_), cell_blk hHeld.2.2.2.1 (hfard b n4_), cell_blk hHeld.2.2.2.2 (hfard b n4_)⟩ (fun hHeld => ?_)
          clear hK K; (try simp only [Act.put, List.setIfInBounds_toArray, List.set_cons_zero, List.set_cons_succ])
          clear sd0 sd1 sd2 gd0 gd1 gd2
          have hPA := own_set (own_set (own_set hPA nd_ 0 (.int .i64 (wB w ⟨up, at'⟩))) nd_ 1 (.int .i64 (hB h ⟨up, at'⟩))) nd_ 2 (.slice A2 n2 c2)
          have hPB := own_set (own_set (own_set hPB nd_ 0 (.int .i64 (wB w ⟨up, at'⟩))) nd_ 1 (.int .i64 (hB h ⟨up, at'⟩))) nd_ 2 (.slice A2 n2 c2)
          rw [hv5.out] at hPA hPB
          have BB := below_set (below_set (below_set BB n7_ (o := 0) (.int .i64 (wB w ⟨up, at'⟩))) n7_ (o := 1) (.int .i64 (hB h ⟨up, at'⟩))) n7_ (o := 2) (.slice A2 n2 c2)
          rw [hv5.out] at BB
          have ra := (hfard ja n5_).trans ta
          have rd := td
          (refine take_yes (i := 13) (d := some 6) (v := ?_) rfl rfl (by kernel_rfl) (by kernel_rfl) (by kernel_rfl) (by rfl) (fun _ _ _ h => h) ?_ (by assumption) ?_; rotate_left; focus ((intro w' hSw; (try dsimp only at hSw); go_simp) <;> with_reducible rfl)); (try simp only [Act.put, List.setIfInBounds_toArray, List.set_cons_zero, List.set_cons_succ])
          refine wpAnyH_done (by kernel_rfl) ?_ _
          have ya0 : v5.cell? ⟨ja, 0, none⟩ = some (.int .i64 (wA w ⟨up, at'⟩)) := by rw [cell_of_row _ _ _ _ _ _ ra]; rfl
          have ya1 : v5.cell? ⟨ja, 1, none⟩ = some (.int .i64 (hA h ⟨up, at'⟩)) := by rw [cell_of_row _ _ _ _ _ _ ra]; rfl
          have ya2 : v5.cell? ⟨ja, 2, none⟩ = some (.slice A1 n1 c1) := by rw [cell_of_row _ _ _ _ _ _ ra]; rfl
          have yd0 : v5.cell? ⟨jd, 0, none⟩ = some (.int .i64 (wB w ⟨up, at'⟩)) := by rw [cell_of_row _ _ _ _ _ _ rd]; rfl
          have yd1 : v5.cell? ⟨jd, 1, none⟩ = some (.int .i64 (hB h ⟨up, at'⟩)) := by rw [cell_of_row _ _ _ _ _ _ rd]; rfl
          have yd2 : v5.cell? ⟨jd, 2, none⟩ = some (.slice A2 n2 c2) := by rw [cell_of_row _ _ _ _ _ _ rd]; rfl
          have hn1 : n1 ≤ 1048576 := by have h1 := HLA.out; have h2 := pA_len ⟨up, at'⟩ ps; have h3 := HLEN.out; omega
          have hn2 : n2 ≤ 1048576 := by have h1 := HLB.out; have h2 := pB_len ⟨up, at'⟩ ps; have h3 := HLEN.out; omega
          have hPA := hPA.rd
          have hPB := hPB.rd
          have BS := BB.size
          clear ra rd ta td hfara hfard hHeld n1_ n2_ n3_ n4_ n5_ n6_ n7_ na_ nd_
          go_wp2_with fail
          refine (ih _ _ _ _ _ (partA ⟨up, at'⟩ ps) _ hsA hPA hn1).mono ?_
          rintro e v6 ⟨rfl, bb6⟩
          have yd0 := keepcell yd0 bb6
          have yd1 := keepcell yd1 bb6
          have yd2 := keepcell yd2 bb6
          have hPB := hPB.below bb6
          have B6 := BB.trans (bb6.mono BS)
          have S6 := B6.size
          rcases hsa : canSew ⟨wA w ⟨up, at'⟩, hA h ⟨up, at'⟩, partA ⟨up, at'⟩ ps⟩ with _ | _
          · have HF := Lib.hid (show false = canSew ⟨w, h, ps⟩ by rw [← HC.out]; show false = (canSew ⟨wA w ⟨up, at'⟩, hA h ⟨up, at'⟩, partA ⟨up, at'⟩ ps⟩ && _); rw [hsa]; rfl)
            go_wp2
            go_ret
            exact ⟨ret_b HF.out, B6⟩
          have HF := Lib.hid (show canSew ⟨wB w ⟨up, at'⟩, hB h ⟨up, at'⟩, partB ⟨up, at'⟩ ps⟩ = canSew ⟨w, h, ps⟩ by rw [← HC.out]; show _ = (canSew ⟨wA w ⟨up, at'⟩, hA h ⟨up, at'⟩, partA ⟨up, at'⟩ ps⟩ && canSew ⟨wB w ⟨up, at'⟩, hB h ⟨up, at'⟩, partB ⟨up, at'⟩ ps⟩); rw [hsa]; rfl)
          go_wp2_with fail
          refine (ih _ _ _ _ _ (partB ⟨up, at'⟩ ps) _ hsB hPB hn2).mono ?_
          rintro e v7 ⟨rfl, bb7⟩
          rw [HF.out]
          have B7 := B6.trans (bb7.mono S6)
          go_wp2
          go_ret
          exact ⟨rfl, B7⟩
    · go_simp
      obtain ⟨jd, hjd⟩ : ∃ j, Hid (v0.heap.size = j) := ⟨_, rfl⟩
      obtain ⟨v1, hv1⟩ : ∃ v, Hid (v0.alloc (.cells #[.int .i64 0, .int .i64 0, .slice none 0 0] 30) = v) := ⟨_, rfl⟩
      have rd : v1.heap[jd]? = some (.cells #[.int .i64 0, .int .i64 0, .slice none 0 0] 30 (0, 0)) := by rw [← hv1.out, ← hjd.out]; exact heap_alloc_new v0 _
      have bb1 : Below v0.heap.size v0 v1 := by rw [← hv1.out]; exact (Below.refl _ _).alloc (Nat.le_refl _) _
      have zd : v0.heap.size = jd ∧ v1.heap.size = jd + 1 := by rw [← hv1.out, ← hjd.out]; simp
      have Zd := Lib.hid zd
      rw [hv1.out, hjd.out]
      refine hK.out _ _ (keep5 hHeld bb1) (fun hHeld => ?_)
      clear hK K; (try simp only [Act.put, List.setIfInBounds_toArray, List.set_cons_zero, List.set_cons_succ])
      have R1 := hR0.below bb1
      have B1 := hB0.trans (bb1.mono hs0)
      have S1 := B1.size
      have Q1 : Hid (v0.heap.size ≤ v1.heap.size) := bb1.size
      clear bb1 zd
      refine wpAnyH_ready (rs := [4, 9]) (by kernel_rfl) (by simp) ?_
      refine AllReadyH.cons (o := _) rfl (fun K hK => ?_) (AllReadyH.cons (o := _) rfl (fun K hK => ?_) AllReadyH.nil)
      · go_simp
        refine (splitS_any w h A n c ps up at' _ R1 hN HK.out).mono ?_
        rintro e v2 ⟨A1, n1, c1, A2, n2, c2, rfl, hPA, hPB, bb2⟩
        have hlo2 := bb2.size
        refine hK.out _ _ (keep5 hHeld bb2) (fun hHeld => ?_)
        clear hK K; (try simp only [Act.put, List.setIfInBounds_toArray, List.set_cons_zero, List.set_cons_succ])
        have R2 := R1.below bb2
        have B2 := B1.trans (bb2.mono S1)
        have S2 := B2.size
        have rd := (bb2.block jd (by have := Zd.out; have := Q1.out; omega)).trans rd
        have Q2 : Hid (v1.heap.size ≤ v2.heap.size) := bb2.size
        clear bb2 hlo2
        (refine take_yes (i := 5) (d := some 19) (v := ?_) rfl rfl (by kernel_rfl) (by kernel_rfl) (by kernel_rfl) (by rfl) (fun _ _ _ h => h) ?_ (by assumption) ?_; rotate_left; focus ((intro w' hSw; (try dsimp only at hSw); go_simp) <;> with_reducible rfl)); (try simp only [Act.put, List.setIfInBounds_toArray, List.set_cons_zero, List.set_cons_succ])
        (refine take_yes (i := 6) (d := some 25) (v := ?_) rfl rfl (by kernel_rfl) (by kernel_rfl) (by kernel_rfl) (by rfl) (fun _ _ _ h => h) ?_ (by assumption) ?_; rotate_left; focus ((intro w' hSw; (try dsimp only at hSw); go_simp) <;> with_reducible rfl)); (try simp only [Act.put, List.setIfInBounds_toArray, List.set_cons_zero, List.set_cons_succ])
        (refine take_yes (i := 7) (d := some 26) (v := ?_) rfl rfl (by kernel_rfl) (by kernel_rfl) (by kernel_rfl) (by rfl) (fun _ _ _ h => h) ?_ (by assumption) ?_; rotate_left; focus ((intro w' hSw; (try dsimp only at hSw); go_simp) <;> with_reducible rfl)); (try simp only [Act.put, List.setIfInBounds_toArray, List.set_cons_zero, List.set_cons_succ])
        (refine take_yes (i := 8) (d := some 27) (v := ?_) rfl rfl (by kernel_rfl) (by kernel_rfl) (by kernel_rfl) (by rfl) (fun _ _ _ h => h) ?_ (by assumption) ?_; rotate_left; focus ((intro w' hSw; (try dsimp only at hSw); go_simp) <;> with_reducible rfl)); (try simp only [Act.put, List.setIfInBounds_toArray, List.set_cons_zero, List.set_cons_succ])
        refine wpAnyH_ready (rs := [9]) (by kernel_rfl) (by simp) ?_
        refine AllReadyH.cons (o := _) rfl (fun K hK => ?_) AllReadyH.nil
        · go_simp
          obtain ⟨ja, hja⟩ : ∃ j, Hid (v2.heap.size = j) := ⟨_, rfl⟩
          obtain ⟨v3, hv3⟩ : ∃ v, Hid (v2.alloc (.cells #[.int .i64 0, .int .i64 0, .slice none 0 0] 30) = v) := ⟨_, rfl⟩
          have ra : v3.heap[ja]? = some (.cells #[.int .i64 0, .int .i64 0, .slice none 0 0] 30 (0, 0)) := by rw [← hv3.out, ← hja.out]; exact heap_alloc_new v2 _
          have bb3 : Below v2.heap.size v2 v3 := by rw [← hv3.out]; exact (Below.refl _ _).alloc (Nat.le_refl _) _
          have za : v2.heap.size = ja ∧ v3.heap.size = ja + 1 := by rw [← hv3.out, ← hja.out]; simp
          have Za := Lib.hid za
          rw [hv3.out, hja.out]
          refine hK.out _ _ (keep5 hHeld bb3) (fun hHeld => ?_)
          clear hK K; (try simp only [Act.put, List.setIfInBounds_toArray, List.set_cons_zero, List.set_cons_succ])
          have R3 := R2.below bb3
          have B3 := B2.trans (bb3.mono S2)
          have S3 := B3.size
          have rd := (bb3.block jd (by have := Zd.out; have := Q1.out; have := Q2.out; omega)).trans rd
          have hPA := hPA.below bb3
          have hPB := hPB.below bb3
          have Q3 : Hid (v2.heap.size ≤ v3.heap.size) := bb3.size
          clear bb3 za
          have N : Hid (¬ jb = ja ∧ ¬ jb = jd ∧ ¬ b = ja ∧ ¬ b = jd ∧ ¬ ja = jd ∧ W.heap.size ≤ ja ∧ W.heap.size ≤ jd) := by have h1 := Za.out; have h2 := Zd.out; have h3 := Q1.out; have h4 := Q2.out; have h5 := Q3.out; refine ⟨?_, ?_, ?_, ?_, ?_, ?_, ?_⟩ <;> omega
          have NA : Hid ((ja < v1.heap.size ∨ v2.heap.size ≤ ja) ∧ (jd < v1.heap.size ∨ v2.heap.size ≤ jd)) := by have h1 := Za.out; have h2 := Zd.out; have h3 := Q1.out; have h4 := Q2.out; have h5 := Q3.out; refine ⟨?_, ?_⟩ <;> omega
          obtain ⟨n1_, n2_, n3_, n4_, n5_, n6_, n7_⟩ := N.out
          obtain ⟨na_, nd_⟩ := NA.out
          have hn1_ := hPA.len
          have hn2_ := hPB.len
          have HLA := Lib.hid hn1_
          have HLB := Lib.hid hn2_
          clear hn1_ hn2_
          have sa0 : v3.cell? ⟨ja, 0, none⟩ = some (.int .i64 0) := by rw [cell_of_row _ _ _ _ _ _ ra]; rfl
          have ga0 : v3.frozen? ⟨ja, 0, none⟩ = false := frozen_of_row _ _ _ _ _ ra
          have sa1 : v3.cell? ⟨ja, 1, none⟩ = some (.int .i64 0) := by rw [cell_of_row _ _ _ _ _ _ ra]; rfl
          have ga1 : v3.frozen? ⟨ja, 1, none⟩ = false := frozen_of_row _ _ _ _ _ ra
          have sa2 : v3.cell? ⟨ja, 2, none⟩ = some (.slice none 0 0) := by rw [cell_of_row _ _ _ _ _ _ ra]; rfl
          have ga2 : v3.frozen? ⟨ja, 2, none⟩ = false := frozen_of_row _ _ _ _ _ ra
          obtain ⟨v4, hv4⟩ : ∃ v, Hid ((((v3.setCell ⟨ja, 0, none⟩ (.int .i64 (wA w ⟨up, at'⟩))).setCell ⟨ja, 1, none⟩ (.int .i64 (hA h ⟨up, at'⟩))).setCell ⟨ja, 2, none⟩ (.slice A1 n1 c1)) = v) := ⟨_, rfl⟩
          refine wpAnyH_ready (rs := [11]) (by kernel_rfl) (by simp) ?_; refine AllReadyH.cons (o := _) rfl (fun K hK => ?_) AllReadyH.nil; go_simp
          rw [hv4.out]
          have ta := row_set (o := 2) (.slice A1 n1 c1) (row_set (o := 1) (.int .i64 (hA h ⟨up, at'⟩)) (row_set (o := 0) (.int .i64 (wA w ⟨up, at'⟩)) ra))
          rw [hv4.out] at ta
          have hfara : ∀ g, g ≠ ja → v4.heap[g]? = v3.heap[g]? := fun g hg => by rw [← hv4.out, row_far _ hg, row_far _ hg, row_far _ hg]
          refine hK.out _ _ ⟨cell_blk hHeld.1 (hfara jb n1_), cell_blk hHeld.2.1 (hfara jb n1_), cell_blk hHeld.2.2.1 (hfara jb n1_), cell_blk hHeld.2.2.2.1 (hfara b n3_), cell_blk hHeld.2.2.2.2 (hfara b n3_)⟩ (fun hHeld => ?_)
          clear hK K; (try simp only [Act.put, List.setIfInBounds_toArray, List.set_cons_zero, List.set_cons_succ])
          clear sa0 sa1 sa2 ga0 ga1 ga2
          have hPA := own_set (own_set (own_set hPA na_ 0 (.int .i64 (wA w ⟨up, at'⟩))) na_ 1 (.int .i64 (hA h ⟨up, at'⟩))) na_ 2 (.slice A1 n1 c1)
          have hPB := own_set (own_set (own_set hPB na_ 0 (.int .i64 (wA w ⟨up, at'⟩))) na_ 1 (.int .i64 (hA h ⟨up, at'⟩))) na_ 2 (.slice A1 n1 c1)
          rw [hv4.out] at hPA hPB
          have BB := below_set (below_set (below_set B3 n6_ (o := 0) (.int .i64 (wA w ⟨up, at'⟩))) n6_ (o := 1) (.int .i64 (hA h ⟨up, at'⟩))) n6_ (o := 2) (.slice A1 n1 c1)
          rw [hv4.out] at BB
          have rd := (hfara jd (fun e => n5_ e.symm)).trans rd
          have sd0 : v4.cell? ⟨jd, 0, none⟩ = some (.int .i64 0) := by rw [cell_of_row _ _ _ _ _ _ rd]; rfl
          have gd0 : v4.frozen? ⟨jd, 0, none⟩ = false := frozen_of_row _ _ _ _ _ rd
          have sd1 : v4.cell? ⟨jd, 1, none⟩ = some (.int .i64 0) := by rw [cell_of_row _ _ _ _ _ _ rd]; rfl
          have gd1 : v4.frozen? ⟨jd, 1, none⟩ = false := frozen_of_row _ _ _ _ _ rd
          have sd2 : v4.cell? ⟨jd, 2, none⟩ = some (.slice none 0 0) := by rw [cell_of_row _ _ _ _ _ _ rd]; rfl
          have gd2 : v4.frozen? ⟨jd, 2, none⟩ = false := frozen_of_row _ _ _ _ _ rd
          obtain ⟨v5, hv5⟩ : ∃ v, Hid ((((v4.setCell ⟨jd, 0, none⟩ (.int .i64 (wB w ⟨up, at'⟩))).setCell ⟨jd, 1, none⟩ (.int .i64 (hB h ⟨up, at'⟩))).setCell ⟨jd, 2, none⟩ (.slice A2 n2 c2)) = v) := ⟨_, rfl⟩
          refine wpAnyH_ready (rs := [12]) (by kernel_rfl) (by simp) ?_; refine AllReadyH.cons (o := _) rfl (fun K hK => ?_) AllReadyH.nil; go_simp
          rw [hv5.out]
          have td := row_set (o := 2) (.slice A2 n2 c2) (row_set (o := 1) (.int .i64 (hB h ⟨up, at'⟩)) (row_set (o := 0) (.int .i64 (wB w ⟨up, at'⟩)) rd))
          rw [hv5.out] at td
          have hfard : ∀ g, g ≠ jd → v5.heap[g]? = v4.heap[g]? := fun g hg => by rw [← hv5.out, row_far _ hg, row_far _ hg, row_far _ hg]
          refine hK.out _ _ ⟨cell_blk hHeld.1 (hfard jb n2_), cell_blk hHeld.2.1 (hfard jb n2_), cell_blk hHeld.2.2.1 (hfard jb n2_), cell_blk hHeld.2.2.2.1 (hfard b n4_), cell_blk hHeld.2.2.2.2 (hfard b n4_)⟩ (fun hHeld => ?_)
          clear hK K; (try simp only [Act.put, List.setIfInBounds_toArray, List.set_cons_zero, List.set_cons_succ])
          clear sd0 sd1 sd2 gd0 gd1 gd2
          have hPA := own_set (own_set (own_set hPA nd_ 0 (.int .i64 (wB w ⟨up, at'⟩))) nd_ 1 (.int .i64 (hB h ⟨up, at'⟩))) nd_ 2 (.slice A2 n2 c2)
          have hPB := own_set (own_set (own_set hPB nd_ 0 (.int .i64 (wB w ⟨up, at'⟩))) nd_ 1 (.int .i64 (hB h ⟨up, at'⟩))) nd_ 2 (.slice A2 n2 c2)
          rw [hv5.out] at hPA hPB
          have BB := below_set (below_set (below_set BB n7_ (o := 0) (.int .i64 (wB w ⟨up, at'⟩))) n7_ (o := 1) (.int .i64 (hB h ⟨up, at'⟩))) n7_ (o := 2) (.slice A2 n2 c2)
          rw [hv5.out] at BB
          have ra := (hfard ja n5_).trans ta
          have rd := td
          (refine take_yes (i := 13) (d := some 6) (v := ?_) rfl rfl (by kernel_rfl) (by kernel_rfl) (by kernel_rfl) (by rfl) (fun _ _ _ h => h) ?_ (by assumption) ?_; rotate_left; focus ((intro w' hSw; (try dsimp only at hSw); go_simp) <;> with_reducible rfl)); (try simp only [Act.put, List.setIfInBounds_toArray, List.set_cons_zero, List.set_cons_succ])
          refine wpAnyH_done (by kernel_rfl) ?_ _
          have ya0 : v5.cell? ⟨ja, 0, none⟩ = some (.int .i64 (wA w ⟨up, at'⟩)) := by rw [cell_of_row _ _ _ _ _ _ ra]; rfl
          have ya1 : v5.cell? ⟨ja, 1, none⟩ = some (.int .i64 (hA h ⟨up, at'⟩)) := by rw [cell_of_row _ _ _ _ _ _ ra]; rfl
          have ya2 : v5.cell? ⟨ja, 2, none⟩ = some (.slice A1 n1 c1) := by rw [cell_of_row _ _ _ _ _ _ ra]; rfl
          have yd0 : v5.cell? ⟨jd, 0, none⟩ = some (.int .i64 (wB w ⟨up, at'⟩)) := by rw [cell_of_row _ _ _ _ _ _ rd]; rfl
          have yd1 : v5.cell? ⟨jd, 1, none⟩ = some (.int .i64 (hB h ⟨up, at'⟩)) := by rw [cell_of_row _ _ _ _ _ _ rd]; rfl
          have yd2 : v5.cell? ⟨jd, 2, none⟩ = some (.slice A2 n2 c2) := by rw [cell_of_row _ _ _ _ _ _ rd]; rfl
          have hn1 : n1 ≤ 1048576 := by have h1 := HLA.out; have h2 := pA_len ⟨up, at'⟩ ps; have h3 := HLEN.out; omega
          have hn2 : n2 ≤ 1048576 := by have h1 := HLB.out; have h2 := pB_len ⟨up, at'⟩ ps; have h3 := HLEN.out; omega
          have hPA := hPA.rd
          have hPB := hPB.rd
          have BS := BB.size
          clear ra rd ta td hfara hfard hHeld n1_ n2_ n3_ n4_ n5_ n6_ n7_ na_ nd_
          go_wp2_with fail
          refine (ih _ _ _ _ _ (partA ⟨up, at'⟩ ps) _ hsA hPA hn1).mono ?_
          rintro e v6 ⟨rfl, bb6⟩
          have yd0 := keepcell yd0 bb6
          have yd1 := keepcell yd1 bb6
          have yd2 := keepcell yd2 bb6
          have hPB := hPB.below bb6
          have B6 := BB.trans (bb6.mono BS)
          have S6 := B6.size
          rcases hsa : canSew ⟨wA w ⟨up, at'⟩, hA h ⟨up, at'⟩, partA ⟨up, at'⟩ ps⟩ with _ | _
          · have HF := Lib.hid (show false = canSew ⟨w, h, ps⟩ by rw [← HC.out]; show false = (canSew ⟨wA w ⟨up, at'⟩, hA h ⟨up, at'⟩, partA ⟨up, at'⟩ ps⟩ && _); rw [hsa]; rfl)
            go_wp2
            go_ret
            exact ⟨ret_b HF.out, B6⟩
          have HF := Lib.hid (show canSew ⟨wB w ⟨up, at'⟩, hB h ⟨up, at'⟩, partB ⟨up, at'⟩ ps⟩ = canSew ⟨w, h, ps⟩ by rw [← HC.out]; show _ = (canSew ⟨wA w ⟨up, at'⟩, hA h ⟨up, at'⟩, partA ⟨up, at'⟩ ps⟩ && canSew ⟨wB w ⟨up, at'⟩, hB h ⟨up, at'⟩, partB ⟨up, at'⟩ ps⟩); rw [hsa]; rfl)
          go_wp2_with fail
          refine (ih _ _ _ _ _ (partB ⟨up, at'⟩ ps) _ hsB hPB hn2).mono ?_
          rintro e v7 ⟨rfl, bb7⟩
          rw [HF.out]
          have B7 := B6.trans (bb7.mono S6)
          go_wp2
          go_ret
          exact ⟨rfl, B7⟩
      · go_simp
        obtain ⟨ja, hja⟩ : ∃ j, Hid (v1.heap.size = j) := ⟨_, rfl⟩
        obtain ⟨v2, hv2⟩ : ∃ v, Hid (v1.alloc (.cells #[.int .i64 0, .int .i64 0, .slice none 0 0] 30) = v) := ⟨_, rfl⟩
        have ra : v2.heap[ja]? = some (.cells #[.int .i64 0, .int .i64 0, .slice none 0 0] 30 (0, 0)) := by rw [← hv2.out, ← hja.out]; exact heap_alloc_new v1 _
        have bb2 : Below v1.heap.size v1 v2 := by rw [← hv2.out]; exact (Below.refl _ _).alloc (Nat.le_refl _) _
        have za : v1.heap.size = ja ∧ v2.heap.size = ja + 1 := by rw [← hv2.out, ← hja.out]; simp
        have Za := Lib.hid za
        rw [hv2.out, hja.out]
        refine hK.out _ _ (keep5 hHeld bb2) (fun hHeld => ?_)
        clear hK K; (try simp only [Act.put, List.setIfInBounds_toArray, List.set_cons_zero, List.set_cons_succ])
        have R2 := R1.below bb2
        have B2 := B1.trans (bb2.mono S1)
        have S2 := B2.size
        have rd := (bb2.block jd (by have := Zd.out; have := Q1.out; omega)).trans rd
        have Q2 : Hid (v1.heap.size ≤ v2.heap.size) := bb2.size
        clear bb2 za
        refine wpAnyH_ready (rs := [4]) (by kernel_rfl) (by simp) ?_
        refine AllReadyH.cons (o := _) rfl (fun K hK => ?_) AllReadyH.nil
        · go_simp
          refine (splitS_any w h A n c ps up at' _ R2 hN HK.out).mono ?_
          rintro e v3 ⟨A1, n1, c1, A2, n2, c2, rfl, hPA, hPB, bb3⟩
          have hlo3 := bb3.size
          refine hK.out _ _ (keep5 hHeld bb3) (fun hHeld => ?_)
          clear hK K; (try simp only [Act.put, List.setIfInBounds_toArray, List.set_cons_zero, List.set_cons_succ])
          have R3 := R2.below bb3
          have B3 := B2.trans (bb3.mono S2)
          have S3 := B3.size
          have ra := (bb3.block ja (by have := Za.out; have := Q1.out; have := Q2.out; omega)).trans ra
          have rd := (bb3.block jd (by have := Zd.out; have := Q1.out; have := Q2.out; omega)).trans rd
          have Q3 : Hid (v2.heap.size ≤ v3.heap.size) := bb3.size
          clear bb3 hlo3
          (refine take_yes (i := 5) (d := some 19) (v := ?_) rfl rfl (by kernel_rfl) (by kernel_rfl) (by kernel_rfl) (by rfl) (fun _ _ _ h => h) ?_ (by assumption) ?_; rotate_left; focus ((intro w' hSw; (try dsimp only at hSw); go_simp) <;> with_reducible rfl)); (try simp only [Act.put, List.setIfInBounds_toArray, List.set_cons_zero, List.set_cons_succ])
          (refine take_yes (i := 6) (d := some 25) (v := ?_) rfl rfl (by kernel_rfl) (by kernel_rfl) (by kernel_rfl) (by rfl) (fun _ _ _ h => h) ?_ (by assumption) ?_; rotate_left; focus ((intro w' hSw; (try dsimp only at hSw); go_simp) <;> with_reducible rfl)); (try simp only [Act.put, List.setIfInBounds_toArray, List.set_cons_zero, List.set_cons_succ])
          (refine take_yes (i := 7) (d := some 26) (v := ?_) rfl rfl (by kernel_rfl) (by kernel_rfl) (by kernel_rfl) (by rfl) (fun _ _ _ h => h) ?_ (by assumption) ?_; rotate_left; focus ((intro w' hSw; (try dsimp only at hSw); go_simp) <;> with_reducible rfl)); (try simp only [Act.put, List.setIfInBounds_toArray, List.set_cons_zero, List.set_cons_succ])
          (refine take_yes (i := 8) (d := some 27) (v := ?_) rfl rfl (by kernel_rfl) (by kernel_rfl) (by kernel_rfl) (by rfl) (fun _ _ _ h => h) ?_ (by assumption) ?_; rotate_left; focus ((intro w' hSw; (try dsimp only at hSw); go_simp) <;> with_reducible rfl)); (try simp only [Act.put, List.setIfInBounds_toArray, List.set_cons_zero, List.set_cons_succ])
          have N : Hid (¬ jb = ja ∧ ¬ jb = jd ∧ ¬ b = ja ∧ ¬ b = jd ∧ ¬ ja = jd ∧ W.heap.size ≤ ja ∧ W.heap.size ≤ jd) := by have h1 := Za.out; have h2 := Zd.out; have h3 := Q1.out; have h4 := Q2.out; have h5 := Q3.out; refine ⟨?_, ?_, ?_, ?_, ?_, ?_, ?_⟩ <;> omega
          have NA : Hid ((ja < v2.heap.size ∨ v3.heap.size ≤ ja) ∧ (jd < v2.heap.size ∨ v3.heap.size ≤ jd)) := by have h1 := Za.out; have h2 := Zd.out; have h3 := Q1.out; have h4 := Q2.out; have h5 := Q3.out; refine ⟨?_, ?_⟩ <;> omega
          obtain ⟨n1_, n2_, n3_, n4_, n5_, n6_, n7_⟩ := N.out
          obtain ⟨na_, nd_⟩ := NA.out
          have hn1_ := hPA.len
          have hn2_ := hPB.len
          have HLA := Lib.hid hn1_
          have HLB := Lib.hid hn2_
          clear hn1_ hn2_
          have sa0 : v3.cell? ⟨ja, 0, none⟩ = some (.int .i64 0) := by rw [cell_of_row _ _ _ _ _ _ ra]; rfl
          have ga0 : v3.frozen? ⟨ja, 0, none⟩ = false := frozen_of_row _ _ _ _ _ ra
          have sa1 : v3.cell? ⟨ja, 1, none⟩ = some (.int .i64 0) := by rw [cell_of_row _ _ _ _ _ _ ra]; rfl
          have ga1 : v3.frozen? ⟨ja, 1, none⟩ = false := frozen_of_row _ _ _ _ _ ra
          have sa2 : v3.cell? ⟨ja, 2, none⟩ = some (.slice none 0 0) := by rw [cell_of_row _ _ _ _ _ _ ra]; rfl
          have ga2 : v3.frozen? ⟨ja, 2, none⟩ = false := frozen_of_row _ _ _ _ _ ra
          obtain ⟨v4, hv4⟩ : ∃ v, Hid ((((v3.setCell ⟨ja, 0, none⟩ (.int .i64 (wA w ⟨up, at'⟩))).setCell ⟨ja, 1, none⟩ (.int .i64 (hA h ⟨up, at'⟩))).setCell ⟨ja, 2, none⟩ (.slice A1 n1 c1)) = v) := ⟨_, rfl⟩
          refine wpAnyH_ready (rs := [11]) (by kernel_rfl) (by simp) ?_; refine AllReadyH.cons (o := _) rfl (fun K hK => ?_) AllReadyH.nil; go_simp
          rw [hv4.out]
          have ta := row_set (o := 2) (.slice A1 n1 c1) (row_set (o := 1) (.int .i64 (hA h ⟨up, at'⟩)) (row_set (o := 0) (.int .i64 (wA w ⟨up, at'⟩)) ra))
          rw [hv4.out] at ta
          have hfara : ∀ g, g ≠ ja → v4.heap[g]? = v3.heap[g]? := fun g hg => by rw [← hv4.out, row_far _ hg, row_far _ hg, row_far _ hg]
          refine hK.out _ _ ⟨cell_blk hHeld.1 (hfara jb n1_), cell_blk hHeld.2.1 (hfara jb n1_), cell_blk hHeld.2.2.1 (hfara jb n1_), cell_blk hHeld.2.2.2.1 (hfara b n3_), cell_blk hHeld.2.2.2.2 (hfara b n3_)⟩ (fun hHeld => ?_)
          clear hK K; (try simp only [Act.put, List.setIfInBounds_toArray, List.set_cons_zero, List.set_cons_succ])
          clear sa0 sa1 sa2 ga0 ga1 ga2
          have hPA := own_set (own_set (own_set hPA na_ 0 (.int .i64 (wA w ⟨up, at'⟩))) na_ 1 (.int .i64 (hA h ⟨up, at'⟩))) na_ 2 (.slice A1 n1 c1)
          have hPB := own_set (own_set (own_set hPB na_ 0 (.int .i64 (wA w ⟨up, at'⟩))) na_ 1 (.int .i64 (hA h ⟨up, at'⟩))) na_ 2 (.slice A1 n1 c1)
          rw [hv4.out] at hPA hPB
          have BB := below_set (below_set (below_set B3 n6_ (o := 0) (.int .i64 (wA w ⟨up, at'⟩))) n6_ (o := 1) (.int .i64 (hA h ⟨up, at'⟩))) n6_ (o := 2) (.slice A1 n1 c1)
          rw [hv4.out] at BB
          have rd := (hfara jd (fun e => n5_ e.symm)).trans rd
          have sd0 : v4.cell? ⟨jd, 0, none⟩ = some (.int .i64 0) := by rw [cell_of_row _ _ _ _ _ _ rd]; rfl
          have gd0 : v4.frozen? ⟨jd, 0, none⟩ = false := frozen_of_row _ _ _ _ _ rd
          have sd1 : v4.cell? ⟨jd, 1, none⟩ = some (.int .i64 0) := by rw [cell_of_row _ _ _ _ _ _ rd]; rfl
          have gd1 : v4.frozen? ⟨jd, 1, none⟩ = false := frozen_of_row _ _ _ _ _ rd
          have sd2 : v4.cell? ⟨jd, 2, none⟩ = some (.slice none 0 0) := by rw [cell_of_row _ _ _ _ _ _ rd]; rfl
          have gd2 : v4.frozen? ⟨jd, 2, none⟩ = false := frozen_of_row _ _ _ _ _ rd
          obtain ⟨v5, hv5⟩ : ∃ v, Hid ((((v4.setCell ⟨jd, 0, none⟩ (.int .i64 (wB w ⟨up, at'⟩))).setCell ⟨jd, 1, none⟩ (.int .i64 (hB h ⟨up, at'⟩))).setCell ⟨jd, 2, none⟩ (.slice A2 n2 c2)) = v) := ⟨_, rfl⟩
          refine wpAnyH_ready (rs := [12]) (by kernel_rfl) (by simp) ?_; refine AllReadyH.cons (o := _) rfl (fun K hK => ?_) AllReadyH.nil; go_simp
          rw [hv5.out]
          have td := row_set (o := 2) (.slice A2 n2 c2) (row_set (o := 1) (.int .i64 (hB h ⟨up, at'⟩)) (row_set (o := 0) (.int .i64 (wB w ⟨up, at'⟩)) rd))
          rw [hv5.out] at td
          have hfard : ∀ g, g ≠ jd → v5.heap[g]? = v4.heap[g]? := fun g hg => by rw [← hv5.out, row_far _ hg, row_far _ hg, row_far _ hg]
          refine hK.out _ _ ⟨cell_blk hHeld.1 (hfard jb n2_), cell_blk hHeld.2.1 (hfard jb n2_), cell_blk hHeld.2.2.1 (hfard jb n2_), cell_blk hHeld.2.2.2.1 (hfard b n4_), cell_blk hHeld.2.2.2.2 (hfard b n4_)⟩ (fun hHeld => ?_)
          clear hK K; (try simp only [Act.put, List.setIfInBounds_toArray, List.set_cons_zero, List.set_cons_succ])
          clear sd0 sd1 sd2 gd0 gd1 gd2
          have hPA := own_set (own_set (own_set hPA nd_ 0 (.int .i64 (wB w ⟨up, at'⟩))) nd_ 1 (.int .i64 (hB h ⟨up, at'⟩))) nd_ 2 (.slice A2 n2 c2)
          have hPB := own_set (own_set (own_set hPB nd_ 0 (.int .i64 (wB w ⟨up, at'⟩))) nd_ 1 (.int .i64 (hB h ⟨up, at'⟩))) nd_ 2 (.slice A2 n2 c2)
          rw [hv5.out] at hPA hPB
          have BB := below_set (below_set (below_set BB n7_ (o := 0) (.int .i64 (wB w ⟨up, at'⟩))) n7_ (o := 1) (.int .i64 (hB h ⟨up, at'⟩))) n7_ (o := 2) (.slice A2 n2 c2)
          rw [hv5.out] at BB
          have ra := (hfard ja n5_).trans ta
          have rd := td
          (refine take_yes (i := 13) (d := some 6) (v := ?_) rfl rfl (by kernel_rfl) (by kernel_rfl) (by kernel_rfl) (by rfl) (fun _ _ _ h => h) ?_ (by assumption) ?_; rotate_left; focus ((intro w' hSw; (try dsimp only at hSw); go_simp) <;> with_reducible rfl)); (try simp only [Act.put, List.setIfInBounds_toArray, List.set_cons_zero, List.set_cons_succ])
          refine wpAnyH_done (by kernel_rfl) ?_ _
          have ya0 : v5.cell? ⟨ja, 0, none⟩ = some (.int .i64 (wA w ⟨up, at'⟩)) := by rw [cell_of_row _ _ _ _ _ _ ra]; rfl
          have ya1 : v5.cell? ⟨ja, 1, none⟩ = some (.int .i64 (hA h ⟨up, at'⟩)) := by rw [cell_of_row _ _ _ _ _ _ ra]; rfl
          have ya2 : v5.cell? ⟨ja, 2, none⟩ = some (.slice A1 n1 c1) := by rw [cell_of_row _ _ _ _ _ _ ra]; rfl
          have yd0 : v5.cell? ⟨jd, 0, none⟩ = some (.int .i64 (wB w ⟨up, at'⟩)) := by rw [cell_of_row _ _ _ _ _ _ rd]; rfl
          have yd1 : v5.cell? ⟨jd, 1, none⟩ = some (.int .i64 (hB h ⟨up, at'⟩)) := by rw [cell_of_row _ _ _ _ _ _ rd]; rfl
          have yd2 : v5.cell? ⟨jd, 2, none⟩ = some (.slice A2 n2 c2) := by rw [cell_of_row _ _ _ _ _ _ rd]; rfl
          have hn1 : n1 ≤ 1048576 := by have h1 := HLA.out; have h2 := pA_len ⟨up, at'⟩ ps; have h3 := HLEN.out; omega
          have hn2 : n2 ≤ 1048576 := by have h1 := HLB.out; have h2 := pB_len ⟨up, at'⟩ ps; have h3 := HLEN.out; omega
          have hPA := hPA.rd
          have hPB := hPB.rd
          have BS := BB.size
          clear ra rd ta td hfara hfard hHeld n1_ n2_ n3_ n4_ n5_ n6_ n7_ na_ nd_
          go_wp2_with fail
          refine (ih _ _ _ _ _ (partA ⟨up, at'⟩ ps) _ hsA hPA hn1).mono ?_
          rintro e v6 ⟨rfl, bb6⟩
          have yd0 := keepcell yd0 bb6
          have yd1 := keepcell yd1 bb6
          have yd2 := keepcell yd2 bb6
          have hPB := hPB.below bb6
          have B6 := BB.trans (bb6.mono BS)
          have S6 := B6.size
          rcases hsa : canSew ⟨wA w ⟨up, at'⟩, hA h ⟨up, at'⟩, partA ⟨up, at'⟩ ps⟩ with _ | _
          · have HF := Lib.hid (show false = canSew ⟨w, h, ps⟩ by rw [← HC.out]; show false = (canSew ⟨wA w ⟨up, at'⟩, hA h ⟨up, at'⟩, partA ⟨up, at'⟩ ps⟩ && _); rw [hsa]; rfl)
            go_wp2
            go_ret
            exact ⟨ret_b HF.out, B6⟩
          have HF := Lib.hid (show canSew ⟨wB w ⟨up, at'⟩, hB h ⟨up, at'⟩, partB ⟨up, at'⟩ ps⟩ = canSew ⟨w, h, ps⟩ by rw [← HC.out]; show _ = (canSew ⟨wA w ⟨up, at'⟩, hA h ⟨up, at'⟩, partA ⟨up, at'⟩ ps⟩ && canSew ⟨wB w ⟨up, at'⟩, hB h ⟨up, at'⟩, partB ⟨up, at'⟩ ps⟩); rw [hsa]; rfl)
          go_wp2_with fail
          refine (ih _ _ _ _ _ (partB ⟨up, at'⟩ ps) _ hsB hPB hn2).mono ?_
          rintro e v7 ⟨rfl, bb7⟩
          rw [HF.out]
          have B7 := B6.trans (bb7.mono S6)
          go_wp2
          go_ret
          exact ⟨rfl, B7⟩

end Go.Proofs.Ytmjdgplkcocgmaa
