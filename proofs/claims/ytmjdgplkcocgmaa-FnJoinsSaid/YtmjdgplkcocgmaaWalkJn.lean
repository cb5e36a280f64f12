/-
  The walk of the law: the joins of a layout make the whole of it.
-/
import Derived.Test.YtmjdgplkcocgmaaJoiF
import Derived.Test.YtmjdgplkcocgmaaJoiN
import Derived.Test.YtmjdgplkcocgmaaUniE
import Derived.Test.YtmjdgplkcocgmaaUnbA
import Derived.Test.YtmjdgplkcocgmaaDepA
import Derived.Test.YtmjdgplkcocgmaaDrawO
set_option linter.unusedVariables false
set_option linter.unusedSimpArgs false
namespace Go.Proofs.Ytmjdgplkcocgmaa
open Go.RowKit

theorem rd_tail {α : Type} {w : World} {b off p sz : Nat} {xs : List α} {cells : α → List Value} (h : Rd w (some ⟨b, off, none⟩) p sz xs cells) (hp : 1 ≤ p) : Rd w (some ⟨b, off + sz, none⟩) (p - 1) sz xs.tail cells := by
  refine ⟨by rw [List.length_tail, h.1], fun hn => ?_⟩
  obtain ⟨b', off', e, hlt, hc⟩ := h.2 (by omega)
  injection e with e
  injection e with e1 e2
  subst e1
  subst e2
  refine ⟨b, off + sz, rfl, hlt, fun i x j u hx hu => ?_⟩
  rw [List.getElem?_tail] at hx
  have := hc (i + 1) x j u hx hu
  rwa [show off + sz + (i * sz + j) = off + ((i + 1) * sz + j) by rw [Nat.add_mul]; omega]
theorem flip_set {w h : Int} {ps : List Patch} {js : List Join} {r : Nat} {x : Join} (hx : js[r]? = some x) (hr : js.length = r + 1) (k : areJoins w h ps js = true) : areJoins w h ps (js.set r ⟨!x.Upright, x.A, x.B⟩) = false := by
  have e : js = js.take r ++ [x] := by
    conv => lhs; rw [← List.take_length (l := js), hr, List.take_add_one, hx]
    rfl
  have hl : (js.take r).length = r := by rw [List.length_take]; omega
  have e2 : js.set r ⟨!x.Upright, x.A, x.B⟩ = js.take r ++ [⟨!x.Upright, x.A, x.B⟩] := by
    conv => lhs; rw [e]
    rw [List.set_append_right _ _ (by omega), hl, Nat.sub_self]
    rfl
  rw [e2]
  rw [e] at k
  exact flip_not k

set_option maxRecDepth 100000 in
set_option maxHeartbeats 40000000 in
theorem walk_FnJoins (A0 : Option Addr) (n0 c0 : Nat) (xs0 : List UInt8) (W : World) (hk0_ : n0 ≤ c0) (hm0_ : c0 ≤ maxLen) (hR0 : Rd W A0 n0 1 xs0 byteC) :
    Calls Try.prog 13 #[.slice A0 n0 c0] W fun e w' => e = .returned (.bool true) ∧ Below W.heap.size W w' := by
  have hn63 : n0 ≤ 9223372036854775807 := by unfold maxLen at hm0_; omega
  rcases Nat.lt_or_ge 1048576 n0 with hn0 | hn0
  · have hbig : decide ((1048576 : Int) < n0) = true := by simpa using (by omega : (1048576 : Int) < n0)
    go_enter Try.func13, Try.ntmps13
    go_wp2_with fail
    refine (big_any A0 n0 c0 _ hn63).mono ?_
    rintro e w' ⟨rfl, rfl⟩
    go_wp2_with fail
    go_ret
    exact ⟨rfl, by (repeat (first | exact Below.refl _ _ | assumption | (refine Below.drew ?_) | (refine below_drewN ?_ _) | (refine Below.alloc ?_ (by first | exact Nat.le_refl _ | (simp; done) | (simp; omega) | omega) _) | (refine Below.setCell ?_ (by first | exact Nat.le_refl _ | (simp; done) | (simp; omega) | omega) _) | (refine Below.trans ?_ (Below.mono (by assumption) (by first | exact Nat.le_refl _ | (simp; done) | (simp; omega) | omega)))))⟩
  have hbig : decide ((1048576 : Int) < n0) = false := by simpa using (by omega : ¬ (1048576 : Int) < n0)
  go_enter Try.func13, Try.ntmps13
  go_wp2_with fail
  refine (big_any A0 n0 c0 _ hn63).mono ?_
  rintro e w' ⟨rfl, rfl⟩
  go_wp2_with fail
  refine (drawLayout_any A0 n0 c0 xs0 _ hR0 hn0).mono ?_
  rintro e w1 ⟨w, h, ps, A, n, c, rfl, hok, hR1, hb1⟩
  obtain ⟨w2, hw2⟩ : ∃ v, Hid (w1.alloc (.cells #[.int .i64 w, .int .i64 h, .slice A n c] 30) = v) := ⟨_, rfl⟩
  obtain ⟨jb, hjb⟩ : ∃ j, Hid (w1.heap.size = j) := ⟨_, rfl⟩
  have q2 : w2.heap[jb]? = some (.cells #[.int .i64 w, .int .i64 h, .slice A n c] 30 (0, 0)) := by rw [← hw2.out, ← hjb.out]; exact heap_alloc_new w1 _
  have b2 : Below w1.heap.size w1 w2 := by rw [← hw2.out]; exact (Below.refl _ _).alloc (Nat.le_refl _) _
  have hB2 : Below W.heap.size W w2 := hb1.trans (b2.mono hb1.size)
  have hR2 := hR1.below b2
  have HLEN := Lib.hid hR2.len
  have hn12 := (layout_parts hok).2.2.1
  have HWH := Lib.hid (And.intro (layout_parts hok).1 (layout_parts hok).2.1)
  rw [HLEN.out] at hn12
  have hN : n ≤ 1048576 := by omega
  have HOK := Lib.hid hok
  clear hR1 b2 hR0 hb1 hbig hok
  go_wp2_with fail
  rw [hw2.out, hjb.out]
  refine (joinsOfI_any w h A n c ps _ hR2 hN).mono ?_
  rintro e w3 ⟨J, p, q, rfl, hpq, hO3, hb3⟩
  have HPL := Lib.hid hO3.len
  have hB3 := hB2.trans (hb3.mono hB2.size)
  have hR3 := hR2.below hb3
  have q3 := (hb3.block jb (heap_lt q2)).trans q2
  have hJ3 := hO3.rd
  obtain ⟨e0, e1, e2⟩ : (w3.cell? ⟨jb, 0, none⟩ = some (.int .i64 w)) ∧ (w3.cell? ⟨jb, 1, none⟩ = some (.int .i64 h)) ∧ w3.cell? ⟨jb, 2, none⟩ = some (.slice A n c) := ⟨by rw [cell_of_row _ _ _ _ _ _ q3]; rfl, by rw [cell_of_row _ _ _ _ _ _ q3]; rfl, by rw [cell_of_row _ _ _ _ _ _ q3]; rfl⟩
  clear hb3 hB2 hR2 q2 q3 hO3
  go_wp2_with fail
  refine (canSewS_any w h A n c ps _ hR3 hN).mono ?_
  rintro e w4 ⟨rfl, hb4⟩
  have hB4 := hB3.trans (hb4.mono hB3.size)
  have hR4 := hR3.below hb4
  have hJ4 := hJ3.below hb4
  replace e0 := keepcell e0 hb4
  replace e1 := keepcell e1 hb4
  replace e2 := keepcell e2 hb4
  clear hb4 hB3 hR3 hJ3
  rcases hsw : canSew ⟨w, h, ps⟩ with _ | _
  · have hp0 : p = 0 := by rw [← HPL.out, joinsOf_no hsw]; rfl
    subst hp0
    have HNO := Lib.hid (show areJoins w h ps [] = false from (are_no2 (l := []) (by
      intro hlen
      have h1 : ps.length = 1 := by simp at hlen; omega
      have := sew_one (l := ⟨w, h, ps⟩) HOK.out h1
      rw [hsw] at this
      cases this)).symm)
    have HSW := Lib.hid hsw
    go_wp2_with fail
    refine (areI_any w h A n c ps none 0 0 [] _ hR4 hN (Rd.nil _ _ _ _) (by omega)).mono ?_
    rintro e w5 ⟨rfl, hb5⟩
    rw [HNO.out]
    have hB5 := hB4.trans (hb5.mono hB4.size)
    go_wp2_with fail
    go_ret
    exact ⟨rfl, hB5⟩
  have HSW := Lib.hid hsw
  have hcnt := joinsOf_cnt (l := ⟨w, h, ps⟩) HOK.out hsw
  have hp1 : p + 1 = n := by rw [← HPL.out, ← HLEN.out]; exact hcnt
  have HARE := Lib.hid (show areJoins w h ps (joinsOf ⟨w, h, ps⟩) = true from joinsOf_are (l := ⟨w, h, ps⟩) HOK.out hsw)
  obtain ⟨hul, hus⟩ := joinsOf_last (l := ⟨w, h, ps⟩) HOK.out hsw
  have hub := joinsOf_beyond (l := ⟨w, h, ps⟩) HOK.out hsw
  obtain ⟨dd, D, hdd, hDe, hD1, hD2, _⟩ := joinsOf_depth (l := ⟨w, h, ps⟩) HOK.out hsw
  obtain ⟨hS0, hS1, hS2⟩ := long_bd HARE.out
  simp only at hul hus hub hDe hD1 hD2
  rw [HLEN.out, HPL.out] at hul hus hub
  rw [HLEN.out] at hDe hD1 hD2 hS2
  obtain ⟨js, hjs⟩ : ∃ x, Hid (joinsOf ⟨w, h, ps⟩ = x) := ⟨_, rfl⟩
  rw [hjs.out] at hJ4 HPL HARE hul hus hub hDe hS0 hS1 hS2
  obtain ⟨s, hs⟩ : ∃ x, Hid (longestSeam w h ps js = x) := ⟨_, rfl⟩
  rw [hs.out] at hS0 hS1 hS2
  obtain ⟨us0, us1, us2, us3⟩ := hus
  have HUL := Lib.hid hul; have HUB := Lib.hid hub; have HUS := Lib.hid (And.intro us0 (And.intro us1 (And.intro us2 us3))); have HDE := Lib.hid hDe
  have HS2 := Lib.hid hS2
  obtain ⟨col, hcol⟩ : ∃ x, Hid ((unitBox w h ps js ((n : Int) + (p : Int) - 1)).Color = x) := ⟨_, rfl⟩
  clear hcnt hul hub us0 us1 us2 us3 hDe hdd hS2 hsw
  have hwr1 : IntKind.i64.wrap ((n : Int) + (p : Int)) = (n : Int) + (p : Int) := by rw [IntKind.wrap_i64]; omega
  have hwr2 : IntKind.i64.wrap ((n : Int) + (p : Int) - 1) = (n : Int) + (p : Int) - 1 := by rw [IntKind.wrap_i64]; omega
  go_wp2_with fail
  refine (unitI_any w h A n c ps J p q js ((n : Int) + (p : Int) - 1) _ hR4 hN hJ4 (by omega)).mono ?_
  rintro e w5 ⟨rfl, hb5⟩
  rw [HUL.out, HUS.out.1, HUS.out.2.1, HUS.out.2.2.1, HUS.out.2.2.2, hcol.out]
  have hB5 := hB4.trans (hb5.mono hB4.size)
  have hR5 := hR4.below hb5
  have hJ5 := hJ4.below hb5
  replace e0 := keepcell e0 hb5
  replace e1 := keepcell e1 hb5
  replace e2 := keepcell e2 hb5
  clear hb5 hB4 hR4 hJ4
  obtain ⟨w6, hw6⟩ : ∃ v, Hid (w5.alloc (.cells #[.int .i64 0, .int .i64 0, .int .i64 w, .int .i64 h, .int .i64 col] 44) = v) := ⟨_, rfl⟩
  obtain ⟨j7, hj7⟩ : ∃ j, Hid (w5.heap.size = j) := ⟨_, rfl⟩
  have q6 : w6.heap[j7]? = some (.cells #[.int .i64 0, .int .i64 0, .int .i64 w, .int .i64 h, .int .i64 col] 44 (0, 0)) := by rw [← hw6.out, ← hj7.out]; exact heap_alloc_new w5 _
  have b6 : Below w5.heap.size w5 w6 := by rw [← hw6.out]; exact (Below.refl _ _).alloc (Nat.le_refl _) _
  have hB6 := hB5.trans (b6.mono hB5.size)
  have hR6 := hR5.below b6
  have hJ6 := hJ5.below b6
  replace e0 := keepcell e0 b6
  replace e1 := keepcell e1 b6
  replace e2 := keepcell e2 b6
  obtain ⟨g0, g1, g2, g3⟩ : (w6.cell? ⟨j7, 0, none⟩ = some (.int .i64 0)) ∧ (w6.cell? ⟨j7, 1, none⟩ = some (.int .i64 0)) ∧ (w6.cell? ⟨j7, 2, none⟩ = some (.int .i64 w)) ∧ w6.cell? ⟨j7, 3, none⟩ = some (.int .i64 h) := ⟨by rw [cell_of_row _ _ _ _ _ _ q6]; rfl, by rw [cell_of_row _ _ _ _ _ _ q6]; rfl, by rw [cell_of_row _ _ _ _ _ _ q6]; rfl, by rw [cell_of_row _ _ _ _ _ _ q6]; rfl⟩
  clear b6 hB5 hR5 hJ5 q6
  go_wp2_with (rw [hw6.out]; (try rw [hj7.out]))
  refine (depthI_any J p q js (n : Int) _ hJ6 (by omega)).mono ?_
  rintro e w7 ⟨rfl, hb7⟩
  rw [HDE.out]
  have hB7 := hB6.trans (hb7.mono hB6.size)
  have hR7 := hR6.below hb7
  have hJ7 := hJ6.below hb7
  replace e0 := keepcell e0 hb7
  replace e1 := keepcell e1 hb7
  replace e2 := keepcell e2 hb7
  replace g0 := keepcell g0 hb7
  replace g1 := keepcell g1 hb7
  replace g2 := keepcell g2 hb7
  replace g3 := keepcell g3 hb7
  clear hb7 hB6 hR6 hJ6
  go_wp2_with fail
  refine (longI_any w h A n c ps J p q js _ hR7 hN hJ7 (by omega)).mono ?_
  rintro e w8 ⟨rfl, hb8⟩
  rw [hs.out]
  have hB8 := hB7.trans (hb8.mono hB7.size)
  have hR8 := hR7.below hb8
  have hJ8 := hJ7.below hb8
  replace e0 := keepcell e0 hb8
  replace e1 := keepcell e1 hb8
  replace e2 := keepcell e2 hb8
  replace g0 := keepcell g0 hb8
  replace g1 := keepcell g1 hb8
  replace g2 := keepcell g2 hb8
  replace g3 := keepcell g3 hb8
  clear hb8 hB7 hR7 hJ7
  have hpn : (n : Int) - 1 = (p : Int) := by omega
  have hwr3 : IntKind.i64.wrap ((n : Int) - 1) = (p : Int) := by rw [IntKind.wrap_i64]; omega
  go_wp2_with fail
  refine (areI_any w h A n c ps J p q js _ hR8 hN hJ8 (by omega)).mono ?_
  rintro e w9 ⟨rfl, hb9⟩
  rw [HARE.out]
  have hB9 := hB8.trans (hb9.mono hB8.size)
  have hR9 := hR8.below hb9
  have hJ9 := hJ8.below hb9
  replace e0 := keepcell e0 hb9
  replace e1 := keepcell e1 hb9
  replace e2 := keepcell e2 hb9
  replace g0 := keepcell g0 hb9
  replace g1 := keepcell g1 hb9
  replace g2 := keepcell g2 hb9
  replace g3 := keepcell g3 hb9
  clear hb9 hB8 hR8 hJ8
  have hpow : 2 ^ D ≤ 2 ^ 11 := Nat.pow_le_pow_right (by decide) (by omega)
  have hpow2 : ((2 ^ D : Nat) : Int) = (2 : Int) ^ D := by rw [Int.natCast_pow]; rfl
  obtain ⟨P2, hP2⟩ : ∃ x, Hid ((2 : Int) ^ D = x) := ⟨_, rfl⟩
  rw [hP2.out] at hpow2
  have hP2a : (n : Int) ≤ P2 := by omega
  have hP2b : P2 ≤ 2048 := by omega
  have hsh1 : IntKind.i64.wrap ((2 : Int) ^ D) = P2 := by rw [hP2.out, IntKind.wrap_i64]; omega
  have hsh2 : IntKind.i64.wrap (1 * (2 : Int) ^ D) = P2 := by rw [Int.one_mul]; exact hsh1
  have hD64 : (D : Int) ≤ 64 := by omega
  have hD0 : (0 : Int) ≤ (D : Int) := by omega
  have hDp : ¬ (p : Int) < (D : Int) := by omega
  have hPn : ¬ P2 < (n : Int) := by omega
  have hs00 : ¬ s < 0 := by omega
  obtain ⟨mx, hmx⟩ : ∃ mx, (if w < h then h else w) = mx := ⟨_, rfl⟩
  have hsmx : ¬ mx < s := by rw [← hmx]; split <;> omega
  go_wp2_with fail
  clear hsh1 hsh2 hpow hpow2
  refine (unitI_any w h A n c ps J p q js ((n : Int) + (p : Int)) _ hR9 hN hJ9 (by omega)).mono ?_
  rintro e y1 ⟨rfl, d1⟩
  rw [HUB.out]
  have hB10 := hB9.trans (d1.mono hB9.size)
  have hR10 := hR9.below d1
  have hJ10 := hJ9.below d1
  replace e0 := keepcell e0 d1
  replace e1 := keepcell e1 d1
  replace e2 := keepcell e2 d1
  clear d1 hB9 hR9 hJ9 g0 g1 g2 g3
  generalize unitBox w h ps js ((n : Int) + (p : Int)) = ub
  obtain ⟨b0, b1, b2, b3, b4⟩ := ub
  obtain ⟨y2, hy2⟩ : ∃ v, Hid (y1.alloc (.cells #[.int .i64 b0, .int .i64 b1, .int .i64 b2, .int .i64 b3, .int .i64 b4] 44) = v) := ⟨_, rfl⟩
  have d2 : Below y1.heap.size y1 y2 := by rw [← hy2.out]; exact (Below.refl _ _).alloc (Nat.le_refl _) _
  have hB11 := hB10.trans (d2.mono hB10.size)
  have hR11 := hR10.below d2
  have hJ11 := hJ10.below d2
  replace e0 := keepcell e0 d2
  replace e1 := keepcell e1 d2
  replace e2 := keepcell e2 d2
  have hs11 := hB11.size
  clear d2 hB10 hR10 hJ10
  rcases Nat.lt_or_ge 1 n with hn1 | hn1
  · have hs0 : ¬ s = 0 := fun e => by have := HS2.out.1 e; omega
    have hs0b : (s == 0) = false := by rw [beq_eq_false_iff_ne]; exact hs0
    have hn1I : (1 : Int) < (n : Int) := by omega
    have hn1b : ((n : Int) == 1) = false := by rw [beq_eq_false_iff_ne]; omega
    have hn1c : ¬ (n : Int) = 1 := by omega
    obtain ⟨r, hr⟩ : ∃ r, p = r + 1 := ⟨p - 1, by omega⟩
    obtain ⟨bJ, oJ, eJ, hbJ, _⟩ := hJ11.2 (by omega)
    subst eJ
    have hwr4 : IntKind.i64.wrap ((p : Int) - 1) = (r : Int) := by rw [IntKind.wrap_i64]; omega
    have hrp : (r : Int) < (p : Int) := by omega
    have hjl : js.length = r + 1 := by rw [HPL.out, hr]
    have hx : js[r]? = some (js[r]'(by omega)) := List.getElem?_eq_getElem _
    obtain ⟨jl, hjlx⟩ : ∃ x, js[r]'(by omega) = x := ⟨_, rfl⟩
    rw [hjlx] at hx
    have HFLIP := Lib.hid (flip_set hx hjl HARE.out)
    have HX := Lib.hid hx
    obtain ⟨ux, ax, bx⟩ := jl
    simp only at HFLIP
    have HTAIL := Lib.hid (show areJoins w h ps js.tail = false from (are_no2 (by rw [List.length_tail]; have := HLEN.out; omega)).symm)
    have HR := Lib.hid hr
    have hp1' : 1 ≤ p := by omega
    clear hx hjlx hjl hr hpn
    obtain ⟨y3, hy3⟩ : ∃ v, Hid (y2.alloc (.cells #[] 76) = v) := ⟨_, rfl⟩
    obtain ⟨z3, hz3⟩ : ∃ j, Hid (y2.heap.size = j) := ⟨_, rfl⟩
    have hac0 : Acc y3 z3 76 3 (.slice (some ⟨z3, 0, none⟩) 0 0) ([] : List Join) joinC := by rw [← hy3.out]; exact Acc.lit0 y2 z3 _ 3 joinC (Nat.le_of_eq hz3.out.symm) hz3.out.symm
    have d3 : Below y2.heap.size y2 y3 := by rw [← hy3.out]; exact (Below.refl _ _).alloc (Nat.le_refl _) _
    have hz33 : z3 ≤ y3.heap.size := by have := d3.size; have := hz3.out; omega
    have hz3e : y2.heap.size ≤ z3 := Nat.le_of_eq hz3.out
    have hJ12 := hJ11.below d3
    go_wp2_with (first | (rw [hy2.out]) | (rw [hy3.out]; (try rw [hz3.out])) | (at_builtin; refine wpList_accsG rfl _ _ 49 rfl z3 76 (.agg #[.bool false, .int .i64 0, .int .i64 0]) 3 24 Try.underlying49 infoJoin rfl (by omega) _ [] js joinC joinC_len joinC_one rfl hac0 (some ⟨bJ, oJ, none⟩) p q rfl hJ12 (by simp; omega) (by omega) hz33 ?_; intro v4 y4 hacc4 hgrow4 hat4; have B4 := hac0.grow_below d3 hgrow4 hz3e d3.size; rw [List.nil_append] at hacc4; obtain ⟨gx, cx, rfl, hgx1, hgx2, hcx, hfx⟩ := hacc4.cells_at joinC_len HX.out; rw [HPL.out]; have hcx0 := hcx 0 (.bool ux) rfl; rw [Nat.add_zero] at hcx0; have hfx0 := hfx (r * 3); have hput := (hacc4.put joinC_len (j := 0) (u := .bool (!ux)) HX.out (by omega) (y := ⟨!ux, ax, bx⟩) rfl).1; rw [Nat.add_zero] at hput; have B5 := B4.setCell (p := ⟨gx, r * 3, none⟩) (show y2.heap.size ≤ gx by omega) (.bool (!ux)); obtain ⟨y5, hy5⟩ : ∃ z, Hid (y4.setCell ⟨gx, r * 3, none⟩ (.bool (!ux)) = z) := ⟨_, rfl⟩; rw [hy5.out] at hput B5))
    try rw [hy5.out]
    replace e0 := keepcell e0 B5
    replace e1 := keepcell e1 B5
    replace e2 := keepcell e2 B5
    have hB12 := hB11.trans (B5.mono hs11)
    have hR12 := hR11.below B5
    have hJ13 := hJ11.below B5
    have hRX : Rd y5 (some ⟨gx, 0, none⟩) p 3 (js.set r ⟨!ux, ax, bx⟩) joinC := by
      obtain ⟨A9, c9, e9, hc9, hO9⟩ := hput.own joinC_len
      injection e9 with e91 e92 e93
      subst e91
      have h9 := hO9.rd
      rw [List.length_set, HPL.out] at h9
      exact h9
    clear hput hcx hfx hcx0 hfx0 hacc4 B4 B5 hB11 hR11 hJ11 hJ12 hgrow4 hat4
    refine wp_region_held_drew (S := fun v => v.cell? ⟨jb, 0, none⟩ = some (.int .i64 w) ∧ v.cell? ⟨jb, 1, none⟩ = some (.int .i64 h) ∧ v.cell? ⟨jb, 2, none⟩ = some (.slice A n c)) (by kernel_rfl) ⟨keep_drew e0, keep_drew e1, keep_drew e2⟩ (fun hHeld => ?_)
    have hB14 : Below W.heap.size W (World.drew y5) := hB12.drew
    have hR14 : Rd (World.drew y5) A n 5 ps patchC := hR12
    have hJ14 : Rd (World.drew y5) (some ⟨bJ, oJ, none⟩) p 3 js joinC := hJ13
    have hX14 : Rd (World.drew y5) (some ⟨gx, 0, none⟩) p 3 (js.set r ⟨!ux, ax, bx⟩) joinC := hRX
    clear hB12 hR12 hJ13 hRX e0 e1 e2
    obtain ⟨u0, hu0⟩ : ∃ v, Hid (World.drew y5 = v) := ⟨_, rfl⟩
    rw [hu0.out] at hHeld hB14 hR14 hJ14 hX14 ⊢
    (refine take_yes (i := 0) (d := some 154) (v := ?_) rfl rfl (by kernel_rfl) (by kernel_rfl) (by kernel_rfl) (by rfl) (fun _ _ _ h => h) ?_ (by assumption) ?_; rotate_left; focus ((intro w' hSw; (try dsimp only at hSw); go_simp) <;> with_reducible rfl)); (try simp only [Act.put, List.setIfInBounds_toArray, List.set_cons_zero, List.set_cons_succ])
    (refine take_yes (i := 1) (d := some 155) (v := ?_) rfl rfl (by kernel_rfl) (by kernel_rfl) (by kernel_rfl) (by rfl) (fun _ _ _ h => h) ?_ (by assumption) ?_; rotate_left; focus ((intro w' hSw; (try dsimp only at hSw); go_simp) <;> with_reducible rfl)); (try simp only [Act.put, List.setIfInBounds_toArray, List.set_cons_zero, List.set_cons_succ])
    refine wpAnyH_ready (rs := [2]) (by kernel_rfl) (by simp) ?_; refine AllReadyH.cons (o := _) rfl (fun K hK => ?_) AllReadyH.nil; go_simp; (go_at_call 36; refine (areI_any w h A n c ps (some ⟨gx, 0, none⟩) p cx _ _ hR14 hN hX14 (by omega)).mono ?_; rw [HFLIP.out]; rintro e u1 ⟨rfl, dd1⟩)
    refine hK.out _ _ ⟨keepcell hHeld.1 dd1, keepcell hHeld.2.1 dd1, keepcell hHeld.2.2 dd1⟩ (fun hHeld => ?_)
    clear hK K; (try simp only [Act.put, List.setIfInBounds_toArray, List.set_cons_zero, List.set_cons_succ])
    have hB15 := hB14.trans (dd1.mono hB14.size)
    have hR15 := hR14.below dd1
    have hT15' := rd_tail (hJ14.below dd1) hp1'
    have hT15 : Rd u1 (if q = 1 then some ⟨bJ, oJ, none⟩ else some ⟨bJ, oJ + 3, none⟩) (p - 1) 3 js.tail joinC := by
      split
      · exact ⟨hT15'.1, fun h0 => absurd h0 (by omega)⟩
      · exact hT15'
    have hp1I : (1 : Int) ≤ (p : Int) := by omega
    clear hT15'
    clear dd1 hB14 hR14 hJ14 hX14
    (refine take_yes (i := 3) (d := some 157) (v := ?_) rfl rfl (by kernel_rfl) (by kernel_rfl) (by kernel_rfl) (by rfl) (fun _ _ _ h => h) ?_ (by assumption) ?_; rotate_left; focus ((intro w' hSw; (try dsimp only at hSw); go_simp) <;> with_reducible rfl)); (try simp only [Act.put, List.setIfInBounds_toArray, List.set_cons_zero, List.set_cons_succ])
    (refine take_yes (i := 4) (d := some 158) (v := ?_) rfl rfl (by kernel_rfl) (by kernel_rfl) (by kernel_rfl) (by rfl) (fun _ _ _ h => h) ?_ (by assumption) ?_; rotate_left; focus ((intro w' hSw; (try dsimp only at hSw); go_simp) <;> with_reducible rfl)); (try simp only [Act.put, List.setIfInBounds_toArray, List.set_cons_zero, List.set_cons_succ])
    (refine take_yes (i := 5) (d := some 159) (v := ?_) rfl rfl (by kernel_rfl) (by kernel_rfl) (by kernel_rfl) (by rfl) (fun _ _ _ h => h) ?_ (by assumption) ?_; rotate_left; focus ((intro w' hSw; (try dsimp only at hSw); go_simp) <;> with_reducible rfl)); (try simp only [Act.put, List.setIfInBounds_toArray, List.set_cons_zero, List.set_cons_succ])
    (refine take_yes (i := 6) (d := some 160) (v := ?_) rfl rfl (by kernel_rfl) (by kernel_rfl) (by kernel_rfl) (by rfl) (fun _ _ _ h => h) ?_ (by assumption) ?_; rotate_left; focus ((intro w' hSw; (try dsimp only at hSw); go_simp) <;> with_reducible rfl)); (try simp only [Act.put, List.setIfInBounds_toArray, List.set_cons_zero, List.set_cons_succ])
    refine wpAnyH_ready (rs := [7]) (by kernel_rfl) (by simp) ?_; refine AllReadyH.cons (o := _) rfl (fun K hK => ?_) AllReadyH.nil; go_simp; (go_at_call 36; refine (areI_any w h A n c ps _ (p - 1) (q - 1) js.tail _ hR15 hN hT15 (by omega)).mono ?_; rw [HTAIL.out]; rintro e u2 ⟨rfl, dd2⟩)
    refine hK.out _ _ ⟨keepcell hHeld.1 dd2, keepcell hHeld.2.1 dd2, keepcell hHeld.2.2 dd2⟩ (fun hHeld => ?_)
    clear hK K; (try simp only [Act.put, List.setIfInBounds_toArray, List.set_cons_zero, List.set_cons_succ])
    have hB16 := hB15.trans (dd2.mono hB15.size)
    clear dd2 hB15 hR15 hT15
    (refine take_yes (i := 8) (d := some 162) (v := ?_) rfl rfl (by kernel_rfl) (by kernel_rfl) (by kernel_rfl) (by rfl) (fun _ _ _ h => h) ?_ (by assumption) ?_; rotate_left; focus ((intro w' hSw; (try dsimp only at hSw); go_simp) <;> with_reducible rfl)); (try simp only [Act.put, List.setIfInBounds_toArray, List.set_cons_zero, List.set_cons_succ])
    refine wpAnyH_done (by kernel_rfl) ?_ _
    go_wp2_with fail
    all_goals
      go_ret
      exact ⟨rfl, hB16⟩
  · have hn1' : n = 1 := by omega
    have hp0 : p = 0 := by omega
    have hs0 : s = 0 := HS2.out.2 hn1'
    subst hn1' hp0 hs0
    go_wp2_with (rw [hy2.out])
    go_ret
    exact ⟨rfl, hB11⟩

end Go.Proofs.Ytmjdgplkcocgmaa
