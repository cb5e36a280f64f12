/-
  Contracts over lines: whether a walk goes over all of them once.
-/
import Derived.Test.YtjgjdchnjiaclaaLineB
import Derived.Test.YtjgjdchnjiaclaaPlainX
import Derived.Test.YtjgjdchnjiaclaaAccErase
import Derived.Test.YtjgjdchnjiaclaaFlatInt
set_option linter.unusedVariables false
namespace Go.Proofs.Ytjgjdchnjiaclaa
open Go.RowKit

theorem infoLine : (Try.prog.info? 62).map (fun i => (i.zero, i.size, i.bytes)) = some (some (.agg #[.int .i64 0, .int .i64 0]), 2, 16) := by kernel_rfl
theorem lineC_one (y : Line) : ∀ u ∈ lineC y, u.oneCell' = true := fun u hu => by
  simp [lineC] at hu
  rcases hu with h | h <;> rw [h] <;> rfl

theorem allWithin_any (A : Option Addr) (n c : Nat) (xs : List Int) (a b : Int) (W : World) (h : Rd W A n 1 xs intC) (hn : n ≤ 1048576) :
    Calls Try.prog 62 #[.slice A n c, .int .i64 a, .int .i64 b] W fun e w' => e = .returned (.bool (xs.all fun n => within n a b)) ∧ W = w' := by
  have HLEN := Lib.hid h.len
  go_enter Try.func62, Try.ntmps62
  go_wp2
  go_loop [11] (fun i => ∃ k : Nat, k ≤ n ∧ i = .int .i64 k ∧ Hid (((xs.take k).all fun n => within n a b) = true)) (fun i => n - (intOf i).toNat)
  case atStart => exact ⟨0, Nat.zero_le _, rfl, rfl⟩
  case round =>
    obtain ⟨k, hk, rfl, hall⟩ := hrel
    by_cases hlt : k < n
    · obtain ⟨b', off, x, rfl, hbW, hx, hc⟩ := h.int hlt (Below.refl _ _)
      have HX := Lib.hid hx
      clear hx
      rcases hw : within x a b with _ | _
      · have HN := Lib.hid (show false = xs.all fun n => within n a b from (all_no (p := fun n => within n a b) HX.out hw).symm)
        go_wp2_with (go_at_call 51; refine (within_any _ _ _ _).mono ?_; rintro e w' ⟨rfl, rfl⟩)
        go_ret
        exact ⟨ret_b HN.out, rfl⟩
      · have HN := Lib.hid (all_take_succ (p := fun n => within n a b) HX.out hall.out hw)
        go_wp2_with (go_at_call 51; refine (within_any _ _ _ _).mono ?_; rintro e w' ⟨rfl, rfl⟩)
        go_round
        case rel => exact ⟨k + 1, by omega, by go_num, HN.out⟩
        case measure => simp [intOf]; omega
    · have HN := Lib.hid (show true = xs.all fun n => within n a b by have := hall.out; rw [List.take_of_length_le (by rw [HLEN.out]; omega)] at this; exact this.symm)
      go_wp2
      go_ret
      exact ⟨ret_b HN.out, rfl⟩

/-- Where the program's search in the lines that are left stands. -/
def AtL (left : List Line) (a b : Int) (j : Nat) (v : Int) : Prop := (v = -1 ∧ (left.take j).countP (fits a b) = 0) ∨ (∃ (p : Nat) (x : Line), v = p ∧ p < j ∧ left[p]? = some x ∧ fits a b x = true)
theorem atL_next {left : List Line} {a b : Int} {j : Nat} {v : Int} {x : Line} (h : AtL left a b j v) (hx : left[j]? = some x) (hf : fits a b x = false) : AtL left a b (j + 1) v := by
  rcases h with ⟨h1, h2⟩ | ⟨p, y, h1, h2, h3, h4⟩
  · exact .inl ⟨h1, countP_take_none hx h2 hf⟩
  · exact .inr ⟨p, y, h1, by omega, h3, h4⟩
theorem atL_hit {left : List Line} {a b : Int} {j : Nat} {x : Line} (hx : left[j]? = some x) (hf : fits a b x = true) : AtL left a b (j + 1) (j : Int) := .inr ⟨j, x, rfl, by omega, hx, hf⟩

set_option maxRecDepth 100000 in
set_option maxHeartbeats 4000000 in
theorem threadI_any (q : Int) (A : Option Addr) (n c : Nat) (xs : List Line) (B : Option Addr) (m d : Nat) (ws : List Int) (W : World) (h : Rd W A n 2 xs lineC) (hn : n ≤ 1048576) (hw : Rd W B m 1 ws intC) (hm : m ≤ 1048576) :
    Calls Try.prog 41 #[.int .i64 q, .slice A n c, .slice B m d] W fun e w' => e = .returned (.bool (isThread q xs ws)) ∧ Below W.heap.size W w' := by
  have HLEN := Lib.hid h.len
  have HLW := Lib.hid hw.len
  have hlo : ∀ W w1, Below W.heap.size W w1 → True := fun _ _ _ => trivial
  rcases hok : linesOk q xs with _ | _
  · have HN := Lib.hid (thread_no1 (w := ws) hok)
    go_enter Try.func41, Try.ntmps41
    go_wp2_with (go_at_call 35; refine (linesOkI_any _ _ _ _ xs _ h hn).mono ?_; rintro e w1 ⟨rfl, hb1⟩; rw [hok])
    go_ret
    exact ⟨ret_b HN.out, hb1⟩
  have hp := linesOk_parts hok
  have hn20 : n ≤ 20 := by have := HLEN.out; omega
  by_cases hl : m = n + 1
  · subst hl
    have hq1 : 1 ≤ q ∧ q ≤ 10 := by omega
    rcases ha : (ws.all fun n => within n 0 (q - 1)) with _ | _
    · have HN := Lib.hid (show false = isThread q xs ws by
        obtain ⟨x, hx, hxw⟩ := List.all_eq_false.1 ha
        obtain ⟨i, hi⟩ := List.getElem?_of_mem hx
        refine thread_out hok (by rw [HLW.out, HLEN.out]) (List.getElem?_eq_some_iff.1 hi).1 ?_
        unfold wAt
        rw [List.getD_eq_getElem?_getD, hi]
        simpa using hxw)
      go_enter Try.func41, Try.ntmps41
      go_wp2_with (first | (go_at_call 35; refine (linesOkI_any _ _ _ _ xs _ h hn).mono ?_; rintro e w1 ⟨rfl, hb1⟩; rw [hok]) | (go_at_call 62; refine (allWithin_any _ _ _ ws _ _ _ (hw.below hb1) hm).mono ?_; rintro e w' ⟨rfl, rfl⟩; rw [ha]))
      go_ret
      exact ⟨ret_b HN.out, hb1⟩
    · have HOK := Lib.hid hok
      have HA := Lib.hid ha
      go_enter Try.func41, Try.ntmps41
      go_wp2_with fail
      refine (linesOkI_any _ _ _ _ xs _ h hn).mono ?_
      rintro e w1 ⟨rfl, hb1⟩
      rw [hok]
      have hz1 := hb1.size
      have hacc0 := Acc.lit0 w1 w1.heap.size 62 2 lineC (Nat.le_refl _) rfl
      have hRa : Rd (w1.alloc (.cells #[] 62)) A n 2 xs lineC := (h.below hb1).below ((Below.refl _ _).alloc (Nat.le_refl _) _)
      have hzc : w1.heap.size ≤ (w1.alloc (.cells #[] 62)).heap.size := by simp
      have hwb := hw.below hb1
      go_wp2_with (first | (go_at_call 62; refine (allWithin_any _ _ _ ws _ _ _ hwb hm).mono ?_; rintro e w' ⟨rfl, rfl⟩; rw [ha]) | (at_builtin; refine wpList_accsG rfl _ _ 42 rfl w1.heap.size 62 (.agg #[.int .i64 0, .int .i64 0]) 2 16 Try.underlying42 infoLine rfl (by omega) _ [] xs lineC lineC_len lineC_one rfl hacc0 A n c rfl hRa (by simp; omega) (by omega) hzc ?_; intro v2 w2 hacc2 hgrow2 hat2))
      rw [List.nil_append] at hacc2
      have hB2 : Below w1.heap.size w1 w2 := hacc0.grow_below ((Below.refl _ _).alloc (Nat.le_refl _) _) hgrow2 (Nat.le_refl _) hzc
      clear hacc0 hRa hzc hgrow2 hat2 hok ha hp
      go_loopw [7, 8] (fun lf i wr => ∃ (t : Nat) (left : List Line), t ≤ n ∧ i = .int .i64 ((t : Int) + 1) ∧ Acc wr w1.heap.size 62 2 lf left lineC ∧ Hid (LeftOk xs left ws t) ∧ Hid (∀ i, i < t → stepOk xs ws i = true) ∧ Below w1.heap.size w1 wr) (fun _ i _ => n + 1 - (intOf i).toNat)
      case atStart => exact ⟨0, xs, Nat.zero_le _, rfl, hacc2, left_zero _ _, fun i hi => absurd hi (by omega), hB2⟩
      case round =>
        clear hacc2 hB2
        obtain ⟨t, left, ht, rfl, hacc, hLO, hall, hB⟩ := hrel
        have hz := hB.size
        have hll := hLO.out.1
        rw [HLEN.out] at hll
        by_cases hlt : t < n
        · obtain ⟨bw, ow, va, rfl, hbw, hva, k0⟩ := hwb.int (k := t) (by omega) hB
          obtain ⟨bw', ow', vb, ee, hbw', hvb, k1⟩ := hwb.int (k := t + 1) (by omega) hB
          injection ee with ee
          injection ee with ee1 ee2
          subst ee1 ee2
          have HVA := Lib.hid (show wAt ws t = va by unfold wAt; rw [List.getD_eq_getElem?_getD, hva]; rfl)
          have HVB := Lib.hid (show wAt ws (t + 1) = vb by unfold wAt; rw [List.getD_eq_getElem?_getD, hvb]; rfl)
          clear hva hvb
          obtain ⟨A1, c1, rfl, hc1, hO⟩ := hacc.own lineC_len
          have hR1 := hO.rd
          obtain ⟨Lp, hLp⟩ : ∃ L, Hid (L = left.length) := ⟨_, rfl⟩
          rw [← hLp.out] at hR1 hll hc1 hacc ⊢
          have k1' : wr.cell? ⟨bw, ow + t + 1, none⟩ = some (.int .i64 vb) := k1
          have ht1 : (t : Int) < (n : Int) + 1 := by omega
          have ht2 : (t : Int) + 1 < (n : Int) + 1 := by omega
          clear hO
          go_wp2
          go_quiet (fail)
          go_wp2
          go_loopw [11, 53] (fun at_ i wr' => ∃ (j : Nat) (v : Int), j ≤ Lp ∧ i = .int .i64 (j : Int) ∧ at_ = .int .i64 v ∧ Hid (AtL left va vb j v) ∧ Below wr.heap.size wr wr') (fun _ i _ => Lp - (intOf i).toNat)
          case atStart => exact ⟨0, -1, Nat.zero_le _, rfl, rfl, .inl ⟨rfl, rfl⟩, below_drewN (Below.refl _ _) _⟩
          case round =>
            obtain ⟨j, v, hj, rfl, rfl, hAL, hB2⟩ := hrel
            have hz2 := hB2.size
            by_cases hlj : j < Lp
            · obtain ⟨b, off, x, rfl, hbW, hx, g0, g1⟩ := hR1.line hlj hB2
              have hX := Lib.hid hx
              have hF := Lib.hid (show fits va vb x = ((x.From == va && x.To == vb) || (x.From == vb && x.To == va)) from rfl)
              clear hx
              obtain ⟨x1, x2⟩ := x
              simp only at g0 g1 hF
              have hjL : (j : Int) < (Lp : Int) := by omega
              rcases e1 : (x1 == va) with _ | _
              · rcases e3 : (x1 == vb) with _ | _
                · have HN := Lib.hid (atL_next hAL.out hX.out (by rw [hF.out, e1, e3]; rfl))
                  go_wp2
                  go_roundw
                  case rel => exact ⟨j + 1, v, by omega, by go_num, rfl, HN.out, by (repeat (first | exact Below.refl _ _ | assumption | (refine Below.drew ?_) | (refine below_drewN ?_ _) | (refine Below.alloc ?_ (by first | exact Nat.le_refl _ | (simp; done) | (simp; omega) | omega) _) | (refine Below.setCell ?_ (by first | exact Nat.le_refl _ | (simp; done) | (simp; omega) | omega) _) | (refine Below.trans ?_ (Below.mono (by assumption) (by first | exact Nat.le_refl _ | (simp; done) | (simp; omega) | omega)))))⟩
                  case measure => simp [intOf]; omega
                · rcases e4 : (x2 == va) with _ | _
                  · have HN := Lib.hid (atL_next hAL.out hX.out (by rw [hF.out, e1, e3, e4]; rfl))
                    go_wp2
                    go_roundw
                    case rel => exact ⟨j + 1, v, by omega, by go_num, rfl, HN.out, by (repeat (first | exact Below.refl _ _ | assumption | (refine Below.drew ?_) | (refine below_drewN ?_ _) | (refine Below.alloc ?_ (by first | exact Nat.le_refl _ | (simp; done) | (simp; omega) | omega) _) | (refine Below.setCell ?_ (by first | exact Nat.le_refl _ | (simp; done) | (simp; omega) | omega) _) | (refine Below.trans ?_ (Below.mono (by assumption) (by first | exact Nat.le_refl _ | (simp; done) | (simp; omega) | omega)))))⟩
                    case measure => simp [intOf]; omega
                  · have HN := Lib.hid (atL_hit (a := va) (b := vb) hX.out (by rw [hF.out, e1, e3, e4]; rfl))
                    go_wp2
                    go_roundw
                    case rel => exact ⟨j + 1, j, by omega, by go_num, rfl, HN.out, by (repeat (first | exact Below.refl _ _ | assumption | (refine Below.drew ?_) | (refine below_drewN ?_ _) | (refine Below.alloc ?_ (by first | exact Nat.le_refl _ | (simp; done) | (simp; omega) | omega) _) | (refine Below.setCell ?_ (by first | exact Nat.le_refl _ | (simp; done) | (simp; omega) | omega) _) | (refine Below.trans ?_ (Below.mono (by assumption) (by first | exact Nat.le_refl _ | (simp; done) | (simp; omega) | omega)))))⟩
                    case measure => simp [intOf]; omega
              · rcases e2 : (x2 == vb) with _ | _
                · rcases e3 : (x1 == vb) with _ | _
                  · have HN := Lib.hid (atL_next hAL.out hX.out (by rw [hF.out, e1, e2, e3]; rfl))
                    go_wp2
                    go_roundw
                    case rel => exact ⟨j + 1, v, by omega, by go_num, rfl, HN.out, by (repeat (first | exact Below.refl _ _ | assumption | (refine Below.drew ?_) | (refine below_drewN ?_ _) | (refine Below.alloc ?_ (by first | exact Nat.le_refl _ | (simp; done) | (simp; omega) | omega) _) | (refine Below.setCell ?_ (by first | exact Nat.le_refl _ | (simp; done) | (simp; omega) | omega) _) | (refine Below.trans ?_ (Below.mono (by assumption) (by first | exact Nat.le_refl _ | (simp; done) | (simp; omega) | omega)))))⟩
                    case measure => simp [intOf]; omega
                  · rcases e4 : (x2 == va) with _ | _
                    · have HN := Lib.hid (atL_next hAL.out hX.out (by rw [hF.out, e1, e2, e3, e4]; rfl))
                      go_wp2
                      go_roundw
                      case rel => exact ⟨j + 1, v, by omega, by go_num, rfl, HN.out, by (repeat (first | exact Below.refl _ _ | assumption | (refine Below.drew ?_) | (refine below_drewN ?_ _) | (refine Below.alloc ?_ (by first | exact Nat.le_refl _ | (simp; done) | (simp; omega) | omega) _) | (refine Below.setCell ?_ (by first | exact Nat.le_refl _ | (simp; done) | (simp; omega) | omega) _) | (refine Below.trans ?_ (Below.mono (by assumption) (by first | exact Nat.le_refl _ | (simp; done) | (simp; omega) | omega)))))⟩
                      case measure => simp [intOf]; omega
                    · have HN := Lib.hid (atL_hit (a := va) (b := vb) hX.out (by rw [hF.out, e1, e2, e3, e4]; rfl))
                      go_wp2
                      go_roundw
                      case rel => exact ⟨j + 1, j, by omega, by go_num, rfl, HN.out, by (repeat (first | exact Below.refl _ _ | assumption | (refine Below.drew ?_) | (refine below_drewN ?_ _) | (refine Below.alloc ?_ (by first | exact Nat.le_refl _ | (simp; done) | (simp; omega) | omega) _) | (refine Below.setCell ?_ (by first | exact Nat.le_refl _ | (simp; done) | (simp; omega) | omega) _) | (refine Below.trans ?_ (Below.mono (by assumption) (by first | exact Nat.le_refl _ | (simp; done) | (simp; omega) | omega)))))⟩
                      case measure => simp [intOf]; omega
                · have HN := Lib.hid (atL_hit (a := va) (b := vb) hX.out (by rw [hF.out, e1, e2]; rfl))
                  go_wp2
                  go_roundw
                  case rel => exact ⟨j + 1, j, by omega, by go_num, rfl, HN.out, by (repeat (first | exact Below.refl _ _ | assumption | (refine Below.drew ?_) | (refine below_drewN ?_ _) | (refine Below.alloc ?_ (by first | exact Nat.le_refl _ | (simp; done) | (simp; omega) | omega) _) | (refine Below.setCell ?_ (by first | exact Nat.le_refl _ | (simp; done) | (simp; omega) | omega) _) | (refine Below.trans ?_ (Below.mono (by assumption) (by first | exact Nat.le_refl _ | (simp; done) | (simp; omega) | omega)))))⟩
                  case measure => simp [intOf]; omega
            · obtain rfl : j = Lp := by omega
              have hALo := hAL.out
              rcases hALo with ⟨hv, hc0⟩ | ⟨p, x, hv, hpL, hpx, hpf⟩
              · subst hv
                have HN := Lib.hid (show false = isThread q xs ws from thread_no3 (i := t) (by rw [HLEN.out]; exact hlt) (left_none hLO.out (by rw [List.take_of_length_le (Nat.le_of_eq hLp.out.symm)] at hc0; rw [HVA.out, HVB.out]; exact hc0)))
                clear hc0
                go_wp2
                go_ret
                exact ⟨ret_b HN.out, hb1.trans ((hB.trans (hB2.mono hz)).mono hz1)⟩
              · subst hv
                have HS := Lib.hid (left_some hLO.out hpx (by rw [HVA.out, HVB.out]; exact hpf))
                clear hpx hpf hAL
                have hacc9 := (hacc.below hB2).drew
                have hzo := hB2.size
                have hBo : Below w1.heap.size w1 wr := hB.trans (hB2.mono hz)
                rw [hLp.out] at hacc9 hc1
                have hpl : p < left.length := by rw [← hLp.out]; exact hpL
                obtain ⟨A2, c2, ev, hc2, hO2⟩ := hacc9.own lineC_len
                injection ev with ev1 ev2 ev3
                subst ev1 ev3
                obtain ⟨g, T, rfl, hgl, hgw, hP⟩ := hO2.2 (by omega)
                obtain ⟨s1, hmv, s3⟩ := hacc9.moved lineC_len hpl
                have her := hacc9.erase lineC_len hpl
                clear hO2 hP ev2 hR1
                obtain ⟨news, hnw⟩ : ∃ ns, Hid (ns = (left.drop (p + 1)).flatMap lineC) := ⟨_, rfl⟩
                rw [← hnw.out] at s1 hmv s3 her
                rw [← hLp.out] at s1 hc1
                have S1 : Hid (news.length = (j - (p + 1)) * 2) := s1
                have S2 : Hid (∀ u ∈ news, u.oneCell' = true) := by
                  intro u hu
                  rw [hnw.out] at hu
                  obtain ⟨y, _, hy⟩ := List.mem_flatMap.1 hu
                  exact lineC_one y u hy
                have S3 : Hid (∀ i, i < news.length → (wr.drew.cell? ⟨g, 0 + p * 2 + i, none⟩).isSome = true ∧ wr.drew.frozen? ⟨g, 0 + p * 2 + i, none⟩ = false) := fun i hi => by
                  rw [Nat.zero_add]
                  exact s3 i hi
                obtain ⟨Ad, hAd, hnews⟩ : ∃ Ad : Addr, (if c1 = p + 1 then some (⟨g, 0, none⟩ : Addr) else some ⟨g, (p + 1) * 2, none⟩) = some Ad ∧ Hid (∀ i u, news[i]? = some u → wr.drew.cell? (Ad.add i) = some u) := by
                  by_cases hc : c1 = p + 1
                  · refine ⟨⟨g, 0, none⟩, by simp [hc], fun i u hu => ?_⟩
                    have h0 : news.length = 0 := by rw [s1]; have : j - (p + 1) = 0 := by omega
                                                    rw [this]
                    rw [List.length_eq_zero_iff.1 h0] at hu
                    simp at hu
                  · refine ⟨⟨g, (p + 1) * 2, none⟩, by simp [hc], fun i u hu => ?_⟩
                    rw [Addr.add_lit]
                    exact hmv i u hu
                have HER := Lib.hid her
                have hwr : IntKind.i64.wrap ((p : Int) + 1) = (p : Int) + 1 := by rw [IntKind.wrap_i64]; omega
                have hp0 : (0 : Int) ≤ (p : Int) + 1 := by omega
                have hp1 : (p : Int) + 1 ≤ (j : Int) := by omega
                have hp2 : ((p : Int) + 1).toNat = p + 1 := by omega
                have hpj : p ≤ j := by omega
                have hpc : p ≤ c1 := by omega
                have hjc : j ≤ c1 := hc1
                have hrm : p + (j - (p + 1)) ≤ c1 := by omega
                obtain ⟨i0, hi0, hz0, hz1', hz2'⟩ := info_parts infoLine
                clear s1 hmv s3 her hacc hacc9
                go_wp2_with fail
                go_region_law (refine step_append_room rfl (.tmp 86) (.tmp 90) 42 rfl 62 i0 2 Try.underlying42 hi0 hz1' g 0 p c1 (by simp [Act.eval, Act.put]) Ad (j - (p + 1)) (c1 - (p + 1)) news (by simp [Act.eval, Act.put]) S1.out hnews.out S2.out hrm S3.out ?_)
                go_wp2
                go_roundw
                case rel =>
                  have her := HER.out
                  rw [← hLp.out] at her
                  refine ⟨t + 1, left.eraseIdx p, by omega, by go_num, ?_, HS.out.2, fun i hi => ?_, ?_⟩
                  · simpa using her.1
                  · by_cases e : i = t
                    · rw [e]; exact HS.out.1
                    · exact hall.out i (by omega)
                  · have := hBo.drew.grown her.2 hBo.size (fun q hq => by injection hq with hq; omega)
                    simpa using this
                case measure => simp [intOf]; omega
        · obtain rfl : t = n := by omega
          have HN := Lib.hid (show true = isThread q xs ws by
            rw [← thread_end HOK.out (by rw [HLW.out, HLEN.out]) (fun i hi => hall.out i (by rw [HLEN.out] at hi; exact hi))]
            have h0 : 0 < ws.length := by rw [HLW.out]; omega
            have := List.all_eq_true.1 HA.out (ws[0]'h0) (List.getElem_mem _)
            unfold wAt
            rw [List.getD_eq_getElem?_getD, List.getElem?_eq_getElem h0]
            exact this.symm)
          go_wp2
          go_ret
          exact ⟨ret_b HN.out, hb1.trans (hB.mono hz1)⟩
  · have HN := Lib.hid (thread_no2 (n := q) (l := xs) (w := ws) (by rw [HLW.out, HLEN.out]; exact hl))
    have hl' : ((m : Int) == (n : Int) + 1) = false := by rw [beq_eq_false_iff_ne]; omega
    have hl2 : ¬ (m : Int) = (n : Int) + 1 := by omega
    go_enter Try.func41, Try.ntmps41
    go_wp2_with (go_at_call 35; refine (linesOkI_any _ _ _ _ xs _ h hn).mono ?_; rintro e w1 ⟨rfl, hb1⟩; rw [hok])
    go_ret
    exact ⟨ret_b HN.out, hb1⟩

end Go.Proofs.Ytjgjdchnjiaclaa
