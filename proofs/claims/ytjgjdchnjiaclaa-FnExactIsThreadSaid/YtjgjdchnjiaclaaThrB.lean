/-
  Contracts over lines: the reference's walk over all of them.
-/
import Derived.Test.YtjgjdchnjiaclaaThrA
import Derived.Test.YtjgjdchnjiaclaaRowSet
import Derived.Test.YtjgjdchnjiaclaaBoolRow
set_option linter.unusedVariables false
namespace Go.Proofs.Ytjgjdchnjiaclaa
open Go.RowKit

/-- Where the reference's search among the lines that are free stands. -/
def AtF (xs : List Line) (U u : List Bool) (a b : Int) (j : Nat) (f : Bool) : Prop :=
  (f = false ∧ u = U ∧ ∀ k, k < j → free xs U a b k = false) ∨ (f = true ∧ ∃ p, p < j ∧ p < xs.length ∧ u = U.set p true ∧ free xs U a b p = true)
theorem atF_len {xs : List Line} {U u : List Bool} {a b : Int} {j : Nat} {f : Bool} (h : AtF xs U u a b j f) : u.length = U.length := by
  rcases h with ⟨_, rfl, _⟩ | ⟨_, p, _, _, rfl, _⟩
  · rfl
  · rw [List.length_set]
theorem atF_next {xs : List Line} {U : List Bool} {a b : Int} {j : Nat} (h : AtF xs U U a b j false) (hf : free xs U a b j = false) : AtF xs U U a b (j + 1) false := by
  rcases h with ⟨_, _, h3⟩ | ⟨h1, _⟩
  · refine .inl ⟨rfl, rfl, fun k hk => ?_⟩
    by_cases e : k = j
    · rw [e]; exact hf
    · exact h3 k (by omega)
  · cases h1
theorem atF_same {xs : List Line} {U u : List Bool} {a b : Int} {j : Nat} (h : AtF xs U u a b j false) : u = U := by
  rcases h with ⟨_, h2, _⟩ | ⟨h1, _⟩
  · exact h2
  · cases h1

set_option maxRecDepth 100000 in
set_option maxHeartbeats 4000000 in
theorem threadS_any (q : Int) (A : Option Addr) (n c : Nat) (xs : List Line) (B : Option Addr) (m d : Nat) (ws : List Int) (W : World) (h : Rd W A n 2 xs lineC) (hn : n ≤ 1048576) (hw : Rd W B m 1 ws intC) (hm : m ≤ 1048576) :
    Calls Try.prog 39 #[.int .i64 q, .slice A n c, .slice B m d] W fun e w' => e = .returned (.bool (isThread q xs ws)) ∧ Below W.heap.size W w' := by
  have HLEN := Lib.hid h.len
  have HLW := Lib.hid hw.len
  rcases hok : linesOk q xs with _ | _
  · have HN := Lib.hid (thread_no1 (w := ws) hok)
    go_enter Try.func39, Try.ntmps39
    go_wp2_with (go_at_call 33; refine (linesOkS_any _ _ _ _ xs _ h hn).mono ?_; rintro e w1 ⟨rfl, hb1⟩; rw [hok])
    go_ret
    exact ⟨ret_b HN.out, hb1⟩
  have hp := linesOk_parts hok
  have hn20 : n ≤ 20 := by have := HLEN.out; omega
  by_cases hl : m = n + 1
  · subst hl
    have hq1 : 1 ≤ q ∧ q ≤ 10 := by omega
    have HOK := Lib.hid hok
    have hmk := mk_eq (P := Try.prog) 37 4 (.bool false) 1 1 Try.underlying37 infoBoolR n (by omega) (by omega)
    go_enter Try.func39, Try.ntmps39
    go_wp2_with fail
    refine (linesOkS_any _ _ _ _ xs _ h hn).mono ?_
    rintro e w1 ⟨rfl, hb1⟩
    rw [hok]
    have hz1 := hb1.size
    have hwb := hw.below hb1
    have hxb := h.below hb1
    go_wp2
    clear hmk
    have hM0 := Flags.made w1 4 n
    obtain ⟨g, hg⟩ : ∃ g, Hid (g = w1.heap.size) := ⟨_, rfl⟩
    rw [← hg.out] at hM0
    rw [← hg.out]
    have hgW : w1.heap.size ≤ g := Nat.le_of_eq hg.out.symm
    have hB0 : Below w1.heap.size w1 (w1.alloc (.cells (madeCells #[Value.bool false] n) 4)) := (Below.refl _ _).alloc (Nat.le_refl _) _
    clear hok hp
    go_loopw [8] (fun i wr => ∃ (t : Nat) (U : List Bool), t ≤ n ∧ i = .int .i64 ((t : Int) + 1) ∧ Flags wr g U ∧ Hid (FlagOk xs U ws t) ∧ Hid (∀ i, i < t → stepOk xs ws i = true) ∧ Below w1.heap.size w1 wr) (fun i _ => n + 1 - (intOf i).toNat)
    case atStart => exact ⟨0, _, Nat.zero_le _, rfl, hM0, by have := flag_zero xs ws; rw [HLEN.out] at this; exact this, fun i hi => absurd hi (by omega), hB0⟩
    case round =>
      clear hM0 hB0
      obtain ⟨t, U, ht, rfl, hF, hFO, hall, hB⟩ := hrel
      have hz := hB.size
      have hul := Lib.hid (show U.length = n by rw [hFO.out.1, HLEN.out])
      by_cases hlt : t < n
      · obtain ⟨bw, ow, va, rfl, hbw, hva, k0⟩ := hwb.int (k := t) (by omega) hB
        obtain ⟨bw', ow', vb, ee, hbw', hvb, k1⟩ := hwb.int (k := t + 1) (by omega) hB
        injection ee with ee
        injection ee with ee1 ee2
        subst ee1 ee2
        have HVA := Lib.hid (show wAt ws t = va by unfold wAt; rw [List.getD_eq_getElem?_getD, hva]; rfl)
        have HVB := Lib.hid (show wAt ws (t + 1) = vb by unfold wAt; rw [List.getD_eq_getElem?_getD, hvb]; rfl)
        clear hva hvb
        have ht1 : (t : Int) < (n : Int) + 1 := by omega
        have ht2 : (t : Int) + 1 < (n : Int) + 1 := by omega
        clear k0 k1
        go_wp2
        go_loopw [9, 10] (fun f i wr' => ∃ (j : Nat) (u : List Bool) (fb : Bool), j ≤ n ∧ i = .int .i64 (j : Int) ∧ f = .bool fb ∧ Flags wr' g u ∧ Hid (AtF xs U u va vb j fb) ∧ Below w1.heap.size w1 wr') (fun _ i _ => n - (intOf i).toNat)
        case atStart => exact ⟨0, U, false, Nat.zero_le _, rfl, rfl, hF, .inl ⟨rfl, rfl, fun k hk => absurd hk (by omega)⟩, hB⟩
        case round =>
          clear hF hB
          obtain ⟨j, u, fb, hj, rfl, rfl, hF, hAF, hB⟩ := hrel
          have hz := hB.size
          cases fb
          · have huU := atF_same hAF.out
            subst huU
            by_cases hlj : j < n
            · obtain ⟨bw', ow', va', ee, hbw', hva, k0⟩ := hwb.int (k := t) (by omega) hB
              injection ee with ee
              injection ee with ee1 ee2
              subst ee1 ee2
              obtain ⟨bw', ow', vb', ee, hbw', hvb, k1⟩ := hwb.int (k := t + 1) (by omega) hB
              injection ee with ee
              injection ee with ee1 ee2
              subst ee1 ee2
              obtain rfl : va = va' := by rw [← HVA.out]; unfold wAt; rw [List.getD_eq_getElem?_getD, hva]; rfl
              obtain rfl : vb = vb' := by rw [← HVB.out]; unfold wAt; rw [List.getD_eq_getElem?_getD, hvb]; rfl
              have k1' : wr.cell? ⟨bw, ow + t + 1, none⟩ = some (.int .i64 vb) := k1
              obtain ⟨b, off, x, rfl, hbW, hx, g0, g1⟩ := hxb.line hlj hB
              have hcu := hF.cell (p := j) (by rw [hul.out]; exact hlj)
              have hfz := hF.frozen j
              have HFR := Lib.hid (show free xs u va vb j = (((x.From == va && x.To == vb) || (x.From == vb && x.To == va)) && !u.getD j false) by
                unfold free fits same
                rw [List.getD_eq_getElem?_getD (l := xs), hx]; rfl)
              clear hx hva hvb
              obtain ⟨x1, x2⟩ := x
              simp only at g0 g1 HFR
              have hjL : (j : Int) < (n : Int) := by omega
              obtain ⟨uj, huj⟩ : ∃ uj, Hid (uj = u.getD j false) := ⟨_, rfl⟩
              rw [← huj.out] at hcu HFR
              rcases e1 : (x1 == va) with _ | _
              · rcases e3 : (x1 == vb) with _ | _
                · -- no
                  have HN := Lib.hid (atF_next hAF.out (by rw [HFR.out, e1, e3]; rfl))
                  go_wp2
                  go_quiet (fail)
                  have hcq : (World.drewN wr nq).cell? ⟨g, j, none⟩ = some (.bool uj) := hcu
                  go_wp2
                  go_roundw
                  case rel => exact ⟨j + 1, u, false, by omega, by go_num, rfl, hF.below (below_drewN (Below.refl _ _) _), HN.out, by (repeat (first | exact Below.refl _ _ | assumption | (refine Below.drew ?_) | (refine below_drewN ?_ _) | (refine Below.alloc ?_ (by first | exact Nat.le_refl _ | (simp; done) | (simp; omega) | omega) _) | (refine Below.setCell ?_ (by first | exact Nat.le_refl _ | (simp; done) | (simp; omega) | omega) _) | (refine Below.trans ?_ (Below.mono (by assumption) (by first | exact Nat.le_refl _ | (simp; done) | (simp; omega) | omega)))))⟩
                  case measure => simp [intOf]; omega
                · rcases e4 : (x2 == va) with _ | _
                  · -- no
                    have HN := Lib.hid (atF_next hAF.out (by rw [HFR.out, e1, e3, e4]; rfl))
                    go_wp2
                    go_quiet (fail)
                    have hcq : (World.drewN wr nq).cell? ⟨g, j, none⟩ = some (.bool uj) := hcu
                    go_wp2
                    go_roundw
                    case rel => exact ⟨j + 1, u, false, by omega, by go_num, rfl, hF.below (below_drewN (Below.refl _ _) _), HN.out, by (repeat (first | exact Below.refl _ _ | assumption | (refine Below.drew ?_) | (refine below_drewN ?_ _) | (refine Below.alloc ?_ (by first | exact Nat.le_refl _ | (simp; done) | (simp; omega) | omega) _) | (refine Below.setCell ?_ (by first | exact Nat.le_refl _ | (simp; done) | (simp; omega) | omega) _) | (refine Below.trans ?_ (Below.mono (by assumption) (by first | exact Nat.le_refl _ | (simp; done) | (simp; omega) | omega)))))⟩
                    case measure => simp [intOf]; omega
                  · -- yes
                    rcases huv : uj with _ | _
                    · rw [huv] at hcu
                      have HH := Lib.hid (show free xs u va vb j = true by rw [HFR.out, e1, e3, e4, huv]; rfl)
                      go_wp2
                      go_quiet (fail)
                      have hcq : (World.drewN wr nq).cell? ⟨g, j, none⟩ = some (.bool false) := hcu
                      have hfq : (World.drewN wr nq).frozen? ⟨g, j, none⟩ = false := hfz
                      have hFq : Flags (World.drewN wr nq) g u := hF.below (below_drewN (Below.refl _ _) _)
                      have hBq : Below w1.heap.size w1 (World.drewN wr nq) := below_drewN hB _
                      go_wp2
                      go_roundw
                      case rel => exact ⟨j + 1, u.set j true, true, by omega, by go_num, rfl, hFq.set (by rw [hul.out]; exact hlj) true, .inr ⟨rfl, j, Nat.lt_succ_self _, by rw [HLEN.out]; exact hlj, rfl, HH.out⟩, hBq.setCell (p := ⟨g, j, none⟩) hgW _⟩
                      case measure => simp [intOf]; omega
                    · rw [huv] at hcu
                      have HN := Lib.hid (atF_next hAF.out (by rw [HFR.out, e1, e3, e4, huv]; rfl))
                      go_wp2
                      go_quiet (fail)
                      have hcq : (World.drewN wr nq).cell? ⟨g, j, none⟩ = some (.bool true) := hcu
                      go_wp2
                      go_roundw
                      case rel => exact ⟨j + 1, u, false, by omega, by go_num, rfl, hF.below (below_drewN (Below.refl _ _) _), HN.out, by (repeat (first | exact Below.refl _ _ | assumption | (refine Below.drew ?_) | (refine below_drewN ?_ _) | (refine Below.alloc ?_ (by first | exact Nat.le_refl _ | (simp; done) | (simp; omega) | omega) _) | (refine Below.setCell ?_ (by first | exact Nat.le_refl _ | (simp; done) | (simp; omega) | omega) _) | (refine Below.trans ?_ (Below.mono (by assumption) (by first | exact Nat.le_refl _ | (simp; done) | (simp; omega) | omega)))))⟩
                      case measure => simp [intOf]; omega
              · rcases e2 : (x2 == vb) with _ | _
                · rcases e3 : (x1 == vb) with _ | _
                  · -- no
                    have HN := Lib.hid (atF_next hAF.out (by rw [HFR.out, e1, e2, e3]; rfl))
                    go_wp2
                    go_quiet (fail)
                    have hcq : (World.drewN wr nq).cell? ⟨g, j, none⟩ = some (.bool uj) := hcu
                    go_wp2
                    go_roundw
                    case rel => exact ⟨j + 1, u, false, by omega, by go_num, rfl, hF.below (below_drewN (Below.refl _ _) _), HN.out, by (repeat (first | exact Below.refl _ _ | assumption | (refine Below.drew ?_) | (refine below_drewN ?_ _) | (refine Below.alloc ?_ (by first | exact Nat.le_refl _ | (simp; done) | (simp; omega) | omega) _) | (refine Below.setCell ?_ (by first | exact Nat.le_refl _ | (simp; done) | (simp; omega) | omega) _) | (refine Below.trans ?_ (Below.mono (by assumption) (by first | exact Nat.le_refl _ | (simp; done) | (simp; omega) | omega)))))⟩
                    case measure => simp [intOf]; omega
                  · rcases e4 : (x2 == va) with _ | _
                    · -- no
                      have HN := Lib.hid (atF_next hAF.out (by rw [HFR.out, e1, e2, e3, e4]; rfl))
                      go_wp2
                      go_quiet (fail)
                      have hcq : (World.drewN wr nq).cell? ⟨g, j, none⟩ = some (.bool uj) := hcu
                      go_wp2
                      go_roundw
                      case rel => exact ⟨j + 1, u, false, by omega, by go_num, rfl, hF.below (below_drewN (Below.refl _ _) _), HN.out, by (repeat (first | exact Below.refl _ _ | assumption | (refine Below.drew ?_) | (refine below_drewN ?_ _) | (refine Below.alloc ?_ (by first | exact Nat.le_refl _ | (simp; done) | (simp; omega) | omega) _) | (refine Below.setCell ?_ (by first | exact Nat.le_refl _ | (simp; done) | (simp; omega) | omega) _) | (refine Below.trans ?_ (Below.mono (by assumption) (by first | exact Nat.le_refl _ | (simp; done) | (simp; omega) | omega)))))⟩
                      case measure => simp [intOf]; omega
                    · -- yes
                      rcases huv : uj with _ | _
                      · rw [huv] at hcu
                        have HH := Lib.hid (show free xs u va vb j = true by rw [HFR.out, e1, e2, e3, e4, huv]; rfl)
                        go_wp2
                        go_quiet (fail)
                        have hcq : (World.drewN wr nq).cell? ⟨g, j, none⟩ = some (.bool false) := hcu
                        have hfq : (World.drewN wr nq).frozen? ⟨g, j, none⟩ = false := hfz
                        have hFq : Flags (World.drewN wr nq) g u := hF.below (below_drewN (Below.refl _ _) _)
                        have hBq : Below w1.heap.size w1 (World.drewN wr nq) := below_drewN hB _
                        go_wp2
                        go_roundw
                        case rel => exact ⟨j + 1, u.set j true, true, by omega, by go_num, rfl, hFq.set (by rw [hul.out]; exact hlj) true, .inr ⟨rfl, j, Nat.lt_succ_self _, by rw [HLEN.out]; exact hlj, rfl, HH.out⟩, hBq.setCell (p := ⟨g, j, none⟩) hgW _⟩
                        case measure => simp [intOf]; omega
                      · rw [huv] at hcu
                        have HN := Lib.hid (atF_next hAF.out (by rw [HFR.out, e1, e2, e3, e4, huv]; rfl))
                        go_wp2
                        go_quiet (fail)
                        have hcq : (World.drewN wr nq).cell? ⟨g, j, none⟩ = some (.bool true) := hcu
                        go_wp2
                        go_roundw
                        case rel => exact ⟨j + 1, u, false, by omega, by go_num, rfl, hF.below (below_drewN (Below.refl _ _) _), HN.out, by (repeat (first | exact Below.refl _ _ | assumption | (refine Below.drew ?_) | (refine below_drewN ?_ _) | (refine Below.alloc ?_ (by first | exact Nat.le_refl _ | (simp; done) | (simp; omega) | omega) _) | (refine Below.setCell ?_ (by first | exact Nat.le_refl _ | (simp; done) | (simp; omega) | omega) _) | (refine Below.trans ?_ (Below.mono (by assumption) (by first | exact Nat.le_refl _ | (simp; done) | (simp; omega) | omega)))))⟩
                        case measure => simp [intOf]; omega
                · -- yes
                  rcases huv : uj with _ | _
                  · rw [huv] at hcu
                    have HH := Lib.hid (show free xs u va vb j = true by rw [HFR.out, e1, e2, huv]; rfl)
                    go_wp2
                    go_quiet (fail)
                    have hcq : (World.drewN wr nq).cell? ⟨g, j, none⟩ = some (.bool false) := hcu
                    have hfq : (World.drewN wr nq).frozen? ⟨g, j, none⟩ = false := hfz
                    have hFq : Flags (World.drewN wr nq) g u := hF.below (below_drewN (Below.refl _ _) _)
                    have hBq : Below w1.heap.size w1 (World.drewN wr nq) := below_drewN hB _
                    go_wp2
                    go_roundw
                    case rel => exact ⟨j + 1, u.set j true, true, by omega, by go_num, rfl, hFq.set (by rw [hul.out]; exact hlj) true, .inr ⟨rfl, j, Nat.lt_succ_self _, by rw [HLEN.out]; exact hlj, rfl, HH.out⟩, hBq.setCell (p := ⟨g, j, none⟩) hgW _⟩
                    case measure => simp [intOf]; omega
                  · rw [huv] at hcu
                    have HN := Lib.hid (atF_next hAF.out (by rw [HFR.out, e1, e2, huv]; rfl))
                    go_wp2
                    go_quiet (fail)
                    have hcq : (World.drewN wr nq).cell? ⟨g, j, none⟩ = some (.bool true) := hcu
                    go_wp2
                    go_roundw
                    case rel => exact ⟨j + 1, u, false, by omega, by go_num, rfl, hF.below (below_drewN (Below.refl _ _) _), HN.out, by (repeat (first | exact Below.refl _ _ | assumption | (refine Below.drew ?_) | (refine below_drewN ?_ _) | (refine Below.alloc ?_ (by first | exact Nat.le_refl _ | (simp; done) | (simp; omega) | omega) _) | (refine Below.setCell ?_ (by first | exact Nat.le_refl _ | (simp; done) | (simp; omega) | omega) _) | (refine Below.trans ?_ (Below.mono (by assumption) (by first | exact Nat.le_refl _ | (simp; done) | (simp; omega) | omega)))))⟩
                    case measure => simp [intOf]; omega
            · obtain rfl : j = n := by omega
              have HN := Lib.hid (show false = isThread q xs ws from thread_no3 (i := t) (by rw [HLEN.out]; exact hlt) (flag_none hFO.out (by
                rw [HVA.out, HVB.out, HLEN.out]
                rcases hAF.out with ⟨_, _, h3⟩ | ⟨h1, _⟩
                · exact h3
                · cases h1)))
              go_wp2
              go_ret
              exact ⟨ret_b HN.out, hb1.trans (hB.mono hz1)⟩
          · obtain ⟨p, hpj, hpx, huv, hfr⟩ : ∃ p, p < j ∧ p < xs.length ∧ u = U.set p true ∧ free xs U va vb p = true := by
              rcases hAF.out with ⟨h1, _⟩ | ⟨_, h2⟩
              · cases h1
              · exact h2
            subst huv
            have HS := Lib.hid (flag_some (i := t) hFO.out hpx (by rw [HVA.out, HVB.out]; exact hfr))
            clear hfr
            by_cases hlj : j < n
            · go_wp2
              go_roundw
              case rel => exact ⟨t + 1, _, by omega, by go_num, hF, HS.out.2, fun i hi => (by
                by_cases e : i = t
                · rw [e]; exact HS.out.1
                · exact hall.out i (by omega)), hB⟩
              case measure => simp [intOf]; omega
            · go_wp2
              go_roundw
              case rel => exact ⟨t + 1, _, by omega, by go_num, hF, HS.out.2, fun i hi => (by
                by_cases e : i = t
                · rw [e]; exact HS.out.1
                · exact hall.out i (by omega)), hB⟩
              case measure => simp [intOf]; omega
      · obtain rfl : t = n := by omega
        have HE := Lib.hid (thread_end HOK.out (by rw [HLW.out, HLEN.out]) (fun i hi => hall.out i (by rw [HLEN.out] at hi; exact hi)))
        obtain ⟨bw, ow, va, rfl, hbw, hva, k0⟩ := hwb.int (k := 0) (by omega) hB
        have HVA := Lib.hid (show wAt ws 0 = va by unfold wAt; rw [List.getD_eq_getElem?_getD, hva]; rfl)
        rw [Nat.add_zero] at k0
        rw [HVA.out] at HE
        go_wp2_with (go_at_call 49; refine (l01In_any _ _ _ _).mono ?_; rintro e w' ⟨rfl, rfl⟩)
        go_ret
        exact ⟨ret_b HE.out, hb1.trans (hB.mono hz1)⟩
  · have HN := Lib.hid (thread_no2 (n := q) (l := xs) (w := ws) (by rw [HLW.out, HLEN.out]; exact hl))
    have hl' : ((m : Int) == (n : Int) + 1) = false := by rw [beq_eq_false_iff_ne]; omega
    have hl2 : ¬ (m : Int) = (n : Int) + 1 := by omega
    go_enter Try.func39, Try.ntmps39
    go_wp2_with (go_at_call 33; refine (linesOkS_any _ _ _ _ xs _ h hn).mono ?_; rintro e w1 ⟨rfl, hb1⟩; rw [hok])
    go_ret
    exact ⟨ret_b HN.out, hb1⟩

end Go.Proofs.Ytjgjdchnjiaclaa
