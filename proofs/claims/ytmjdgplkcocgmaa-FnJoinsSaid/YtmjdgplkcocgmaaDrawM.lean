/-
  Contracts of the drawing of layouts: a layout that begins with one patch, of which patches are cut in two.
-/
import Derived.Test.YtmjdgplkcocgmaaDrawL
set_option linter.unusedVariables false
set_option linter.unusedSimpArgs false
namespace Go.Proofs.Ytmjdgplkcocgmaa
open Go.RowKit

def LayOut (W0 : World) (g : Nat) (A : Option Addr) (n : Nat) (xs : List UInt8) (e : Ending) (w' : World) : Prop :=
  ∃ (w h : Int) (ps : List Patch) (A1 : Option Addr) (n1 c1 : Nat), e = .returned (.agg #[.int .i64 w, .int .i64 h, .slice A1 n1 c1]) ∧ layoutOk w h ps = true ∧ Rd w' A1 n1 5 ps patchC ∧ Cur W0 w' g A n xs
theorem Acc.only {α : Type} {w w' : World} {lo sz l u : Nat} {e : TypeId} {v : Value} {xs : List α} {cells : α → List Value} (h : Acc w lo e sz v xs cells) (ho : Only l u w w') (hd : u ≤ lo) : Acc w' lo e sz v xs cells := by
  obtain ⟨h1, h2⟩ := h
  refine ⟨h1, ?_⟩
  rcases h2 with h2 | ⟨g, cap, cur, hv, hg, hh, r⟩
  · exact .inl h2
  · exact .inr ⟨g, cap, cur, hv, hg, (ho.block g (heap_lt hh) (.inr (by omega))).trans hh, r⟩
theorem only_cell' {lo hi : Nat} {w w' : World} {b : Nat} {o : Obj} (h : w.heap[b]? = some o) (ho : Only lo hi w w') (hd : b < lo ∨ hi ≤ b) : w'.heap[b]? = some o := (ho.block b (heap_lt h) hd).trans h
theorem grown_at (w : World) (g o : Nat) (u : Value) : w.grownBy (w.setCell ⟨g, o, none⟩ u) (some g) := grown_put w g o u

set_option maxRecDepth 100000 in
set_option maxHeartbeats 4000000 in
theorem l09Cut_any (W0 : World) (g : Nat) (A : Option Addr) (n : Nat) (xs : List UInt8) (W : World) (hC : Cur W0 W g A n xs) :
    Calls Try.prog 80 #[.pointer (some ⟨g, 0, none⟩)] W (LayOut W0 g A n xs) := by
  have hgW := hC.lt
  have hW0 := hC.base.size
  obtain ⟨r2, hr2⟩ : ∃ j, Hid (W.heap.size = j) := ⟨_, rfl⟩
  obtain ⟨wa, hwa⟩ : ∃ v, Hid (W.alloc (.cells #[.int .i64 0, .int .i64 0, .slice none 0 0] 30) = v) := ⟨_, rfl⟩
  have rr : wa.heap[r2]? = some (.cells #[.int .i64 0, .int .i64 0, .slice none 0 0] 30 (0, 0)) := by rw [← hwa.out, ← hr2.out]; exact heap_alloc_new W _
  have ba : Below W.heap.size W wa := by rw [← hwa.out]; exact (Below.refl _ _).alloc (Nat.le_refl _) _
  have hCa := hC.below ba
  have hgr : g < r2 := by have := hr2.out; omega
  have hr2a := heap_lt rr
  clear ba
  go_enter Try.func80, Try.ntmps80
  go_wp2_with (first | rw [hwa.out] | rw [hr2.out])
  refine (l01Below_any W0 g A n xs 8 _ hCa (by omega)).mono ?_
  rintro e w1 ⟨x1, rfl, hx1, hC1, ho1⟩
  have rr1 := only_cell' rr ho1 (by omega)
  have hz1 : r2 < w1.heap.size := heap_lt rr1
  obtain ⟨a1, hw1⟩ : ∃ v, Hid (2 + x1 = v) := ⟨_, rfl⟩
  have hx10 := hx1.1
  have hx11 := hx1.2.1 (by omega)
  clear rr hr2a hx1 ho1 hCa
  go_wp2_with fail
  refine (l01Below_any W0 g A n xs 8 _ hC1 (by omega)).mono ?_
  rintro e w2 ⟨x2, rfl, hx2, hC2, ho2⟩
  have rr2 := only_cell' rr1 ho2 (by omega)
  have hz2 : r2 < w2.heap.size := heap_lt rr2
  obtain ⟨a2, hw2⟩ : ∃ v, Hid (2 + x2 = v) := ⟨_, rfl⟩
  have hx20 := hx2.1
  have hx21 := hx2.2.1 (by omega)
  have hb1 : 2 ≤ a1 ∧ a1 ≤ 9 := by rw [← hw1.out]; omega
  have hb2 : 2 ≤ a2 ∧ a2 ≤ 9 := by rw [← hw2.out]; omega
  clear rr1 hz1 hx2 ho2 hC1
  obtain ⟨j3, hj3⟩ : ∃ j, Hid (w2.heap.size = j) := ⟨_, rfl⟩
  obtain ⟨wd, hwd⟩ : ∃ v, Hid ((w2.alloc (.cells #[.int .i64 (2 + x1), .int .i64 (2 + x2), .slice (some ⟨w2.heap.size + 1, 0, none⟩) 1 1] 30)).alloc (.cells #[.int .i64 0, .int .i64 0, .int .i64 (2 + x1), .int .i64 (2 + x2), .int .i64 0] 44) = v) := ⟨_, rfl⟩
  have sb : (w2.alloc (.cells #[.int .i64 (2 + x1), .int .i64 (2 + x2), .slice (some ⟨w2.heap.size + 1, 0, none⟩) 1 1] 30)).heap.size = w2.heap.size + 1 := by simp
  have hacc0 := Acc.lit (w2.alloc (.cells #[.int .i64 (2 + x1), .int .i64 (2 + x2), .slice (some ⟨w2.heap.size + 1, 0, none⟩) 1 1] 30)) (w2.heap.size + 1) 44 5 [(⟨0, 0, 2 + x1, 2 + x2, 0⟩ : Patch)] patchC #[.int .i64 0, .int .i64 0, .int .i64 (2 + x1), .int .i64 (2 + x2), .int .i64 0] rfl (Nat.le_of_eq sb.symm) (by unfold maxLen; simp) rfl sb.symm
  have q0 : ((w2.alloc (.cells #[.int .i64 (2 + x1), .int .i64 (2 + x2), .slice (some ⟨w2.heap.size + 1, 0, none⟩) 1 1] 30)).alloc (.cells #[.int .i64 0, .int .i64 0, .int .i64 (2 + x1), .int .i64 (2 + x2), .int .i64 0] 44)).heap[w2.heap.size]? = some (.cells #[.int .i64 (2 + x1), .int .i64 (2 + x2), .slice (some ⟨w2.heap.size + 1, 0, none⟩) 1 1] 30 (0, 0)) := (((Below.refl _ _).alloc (Nat.le_refl _) (.cells #[.int .i64 0, .int .i64 0, .int .i64 (2 + x1), .int .i64 (2 + x2), .int .i64 0] 44) : Below (w2.alloc (.cells #[.int .i64 (2 + x1), .int .i64 (2 + x2), .slice (some ⟨w2.heap.size + 1, 0, none⟩) 1 1] 30)).heap.size (w2.alloc (.cells #[.int .i64 (2 + x1), .int .i64 (2 + x2), .slice (some ⟨w2.heap.size + 1, 0, none⟩) 1 1] 30)) _).block w2.heap.size (by omega)).trans (heap_alloc_new w2 _)
  have hCd0 := (hC2.below ((Below.refl _ _).alloc (Nat.le_refl _) (.cells #[.int .i64 (2 + x1), .int .i64 (2 + x2), .slice (some ⟨w2.heap.size + 1, 0, none⟩) 1 1] 30))).below ((Below.refl _ _).alloc (Nat.le_refl _) (.cells #[.int .i64 0, .int .i64 0, .int .i64 (2 + x1), .int .i64 (2 + x2), .int .i64 0] 44))
  have rd0 := (((Below.refl _ _).alloc (Nat.le_refl _) (.cells #[.int .i64 0, .int .i64 0, .int .i64 (2 + x1), .int .i64 (2 + x2), .int .i64 0] 44) : Below (w2.alloc (.cells #[.int .i64 (2 + x1), .int .i64 (2 + x2), .slice (some ⟨w2.heap.size + 1, 0, none⟩) 1 1] 30)).heap.size (w2.alloc (.cells #[.int .i64 (2 + x1), .int .i64 (2 + x2), .slice (some ⟨w2.heap.size + 1, 0, none⟩) 1 1] 30)) _).block r2 (by omega)).trans ((((Below.refl _ _).alloc (Nat.le_refl _) (.cells #[.int .i64 (2 + x1), .int .i64 (2 + x2), .slice (some ⟨w2.heap.size + 1, 0, none⟩) 1 1] 30) : Below w2.heap.size w2 _).block r2 hz2).trans rr2)
  have sd0 : w2.heap.size + 1 ≤ ((w2.alloc (.cells #[.int .i64 (2 + x1), .int .i64 (2 + x2), .slice (some ⟨w2.heap.size + 1, 0, none⟩) 1 1] 30)).alloc (.cells #[.int .i64 0, .int .i64 0, .int .i64 (2 + x1), .int .i64 (2 + x2), .int .i64 0] 44)).heap.size := by simp
  rw [hwd.out] at hacc0 q0 hCd0 rd0 sd0
  obtain ⟨lo, hlo⟩ : ∃ l, Hid (w2.heap.size + 1 = l) := ⟨_, rfl⟩
  rw [hlo.out] at hacc0 q0 sd0
  rw [hj3.out] at q0
  have hrj : r2 < j3 := by rw [← hj3.out]; exact hz2
  have hjl : j3 < lo := by rw [← hlo.out, ← hj3.out]; omega
  have hok := one_ok (w := 2 + x1) (h := 2 + x2) (by omega) (by omega) (by omega) (by omega)
  have HA := Lib.hid hacc0
  have HQ := Lib.hid q0
  have HRD := Lib.hid rd0
  have HOK := Lib.hid hok
  have HSD := Lib.hid sd0
  clear sb hacc0 q0 rd0 hok rr2 hC2 sd0 hb1 hb2
  go_wp2_with (rw [hwd.out]; (try rw [hj3.out]); (try rw [hlo.out]))
  refine (l01Once_any W0 g A n xs 6 _ hCd0 (by omega)).mono ?_
  rintro e w3 ⟨b3, rfl, hC3, ho3⟩
  have hacc3 := HA.out.only ho3 (by omega)
  have q3 := only_cell' HQ.out ho3 (by omega)
  have rr3 := only_cell' HRD.out ho3 (by omega)
  have hlz3 : lo ≤ w3.heap.size := Nat.le_trans HSD.out ho3.size
  clear hCd0 ho3 hz2 hx10 hx11 hx20 hx21
  generalize 2 + x1 = ww at hacc3 q3 HOK hw1
  generalize 2 + x2 = hh at hacc3 q3 HOK hw2
  clear hw1 hw2 HA HQ HRD HSD
  rcases b3 with _ | _
  · skip
    have rrz := heap_lt rr3
    go_wp2_with fail
    refine (l01Below_any W0 g A n xs 8 _ hC3 (by omega)).mono ?_
    rintro e w6 ⟨x6, rfl, hx6, hC6, ho6⟩
    have hx60 := hx6.1
    have hx61 := hx6.2.1 (by omega)
    obtain ⟨m, rfl⟩ := Int.eq_ofNat_of_zero_le hx60
    have hm7 : m ≤ 7 := by omega
    clear hx61
    have hacc6 := hacc3.only ho6 (by omega)
    have q6 := only_cell' q3 ho6 (by omega)
    have rr6 := only_cell' rr3 ho6 (by omega)
    have hlz6 : lo ≤ w6.heap.size := Nat.le_trans hlz3 ho6.size
    clear hx6 hx60 ho6 rrz
    have l0 : w6.cell? ⟨j3, 2, none⟩ = some (.slice (some ⟨lo, 0, none⟩) 1 1) := by rw [cell_of_row _ _ _ _ _ _ q6]; rfl
    go_wp2_with fail
    clear l0
    go_loopw [5] (fun i wr => ∃ (k L c gg : Nat) (ps : List Patch), k ≤ m ∧ i = .int .i64 (k : Int) ∧ wr.heap[j3]? = some (.cells #[.int .i64 ww, .int .i64 hh, .slice (some ⟨gg, 0, none⟩) L c] 30 (0, 0)) ∧ Acc wr lo 44 5 (.slice (some ⟨gg, 0, none⟩) L c) ps patchC ∧ ps.length = L ∧ Hid (layoutOk ww hh ps = true) ∧ wr.heap[r2]? = some (.cells #[.int .i64 0, .int .i64 0, .slice none 0 0] 30 (0, 0)) ∧ Cur W0 wr g A n xs ∧ lo ≤ wr.heap.size) (fun i _ => m - (intOf i).toNat)
    case atStart => exact ⟨0, 1, 1, lo, [⟨0, 0, ww, hh, 0⟩], Nat.zero_le _, rfl, q6, hacc6, rfl, HOK, rr6, hC6, hlz6⟩
    case round =>
      clear q6 hacc6 rr6 hC6 hlz6
      obtain ⟨k, L, c, gg, ps, hk, rfl, qr, hacc, hlen, hok, rrr, hCr, hlz⟩ := hrel
      have hlp := layout_parts hok.out
      have hL12 := hlp.2.2.1
      rw [hlen] at hL12
      have hlw := hlp.1.2
      have hlh := hlp.2.1.2
      have hpin := hlp.2.2.2.1
      have HPIN := Lib.hid hpin
      have HLEN := Lib.hid hlen
      clear hlp hpin hlen
      have l0 : wr.cell? ⟨j3, 0, none⟩ = some (.int .i64 ww) := by rw [cell_of_row _ _ _ _ _ _ qr]; rfl
      have l1 : wr.cell? ⟨j3, 1, none⟩ = some (.int .i64 hh) := by rw [cell_of_row _ _ _ _ _ _ qr]; rfl
      have l2 : wr.cell? ⟨j3, 2, none⟩ = some (.slice (some ⟨gg, 0, none⟩) L c) := by rw [cell_of_row _ _ _ _ _ _ qr]; rfl
      by_cases hlt : k < m
      · have hkm : (k : Int) < (m : Int) := by omega
        have HKM : Hid (k + 1 ≤ m) := by show k + 1 ≤ m; omega
        by_cases hl12 : L < 12
        · have hLI : (L : Int) < 12 := by omega
          go_wp2_with fail
          refine (l01Below_any W0 g A n xs (L : Int) _ hCr (by omega)).mono ?_
          rintro e w7 ⟨x7, rfl, hx7, hC7, ho7⟩
          have hx70 := hx7.1
          have hx71 := hx7.2.1 (by omega)
          obtain ⟨p, rfl⟩ := Int.eq_ofNat_of_zero_le hx70
          have hpL : p < L := by omega
          have hacc7 := hacc.only ho7 (by omega)
          have q7 := only_cell' qr ho7 (by omega)
          have rr7 := only_cell' rrr ho7 (by omega)
          have hlz7 : lo ≤ w7.heap.size := Nat.le_trans hlz ho7.size
          clear hx7 hx70 ho7 hacc qr rrr hCr hlz l0 l1 l2
          have hyl : p < ps.length := by have := HLEN.out; omega
          obtain ⟨y, hy⟩ : ∃ y, ps[p]? = some y := ⟨_, List.getElem?_eq_getElem hyl⟩
          obtain ⟨ga, cga, ev, hgl, hgw, hcA, hfA⟩ := hacc7.cells_at patchC_len hy
          injection ev with ev1 ev3 ev4
          injection ev1 with ev1
          injection ev1 with ev1 _ _
          subst ev1
          clear ev3 ev4
          have hbd := patch_bd (all_at' HPIN.out hy) hlw hlh
          obtain ⟨X, Y, PW, PH, CC⟩ := y
          simp only at hbd
          have y0 := hcA 0 _ rfl
          have y1 := hcA 1 _ rfl
          have y2 := hcA 2 _ rfl
          have y3 := hcA 3 _ rfl
          have y4 := hcA 4 _ rfl
          rw [Nat.add_zero] at y0
          have HY := Lib.hid hy
          have HFA := Lib.hid hfA
          clear hcA hfA hy hyl
          have l0 : w7.cell? ⟨j3, 0, none⟩ = some (.int .i64 ww) := by rw [cell_of_row _ _ _ _ _ _ q7]; rfl
          have l1 : w7.cell? ⟨j3, 1, none⟩ = some (.int .i64 hh) := by rw [cell_of_row _ _ _ _ _ _ q7]; rfl
          have l2 : w7.cell? ⟨j3, 2, none⟩ = some (.slice (some ⟨gg, 0, none⟩) L c) := by rw [cell_of_row _ _ _ _ _ _ q7]; rfl
          obtain ⟨jp, hjp⟩ : ∃ j, Hid (w7.heap.size = j) := ⟨_, rfl⟩
          obtain ⟨vp, hvp⟩ : ∃ v, Hid (w7.alloc (.cells #[.int .i64 X, .int .i64 Y, .int .i64 PW, .int .i64 PH, .int .i64 CC] 44) = v) := ⟨_, rfl⟩
          have rjp : vp.heap[jp]? = some (.cells #[.int .i64 X, .int .i64 Y, .int .i64 PW, .int .i64 PH, .int .i64 CC] 44 (0, 0)) := by rw [← hvp.out, ← hjp.out]; exact heap_alloc_new w7 _
          have bvp : Below w7.heap.size w7 vp := by rw [← hvp.out]; exact (Below.refl _ _).alloc (Nat.le_refl _) _
          have svp : vp.heap.size = jp + 1 := by rw [← hvp.out, ← hjp.out]; simp
          obtain ⟨jq, hjq⟩ : ∃ j, Hid (vp.heap.size = j) := ⟨_, rfl⟩
          obtain ⟨vq, hvq⟩ : ∃ v, Hid (vp.alloc (.cells #[.int .i64 X, .int .i64 Y, .int .i64 PW, .int .i64 PH, .int .i64 CC] 44) = v) := ⟨_, rfl⟩
          have rjq : vq.heap[jq]? = some (.cells #[.int .i64 X, .int .i64 Y, .int .i64 PW, .int .i64 PH, .int .i64 CC] 44 (0, 0)) := by rw [← hvq.out, ← hjq.out]; exact heap_alloc_new vp _
          have bvq : Below vp.heap.size vp vq := by rw [← hvq.out]; exact (Below.refl _ _).alloc (Nat.le_refl _) _
          have svq : vq.heap.size = jq + 1 := by rw [← hvq.out, ← hjq.out]; simp
          have hjp7 : w7.heap.size = jp := hjp.out
          have hjqp : jq = jp + 1 := by rw [← hjq.out, svp]
          have qp := (bvq.block j3 (by omega)).trans ((bvp.block j3 (by omega)).trans q7)
          have rrp := (bvq.block r2 (by omega)).trans ((bvp.block r2 (by omega)).trans rr7)
          have rpq := (bvq.block jp (by omega)).trans rjp
          have haccq := (hacc7.below bvp).below bvq
          have hCq := (hC7.below bvp).below bvq
          have hlzq : lo ≤ vq.heap.size := by omega
          have a0 : vp.cell? ⟨jp, 0, none⟩ = some (.int .i64 X) := by rw [cell_of_row _ _ _ _ _ _ rjp]; rfl
          have a1 : vp.cell? ⟨jp, 1, none⟩ = some (.int .i64 Y) := by rw [cell_of_row _ _ _ _ _ _ rjp]; rfl
          have a2 : vp.cell? ⟨jp, 2, none⟩ = some (.int .i64 PW) := by rw [cell_of_row _ _ _ _ _ _ rjp]; rfl
          have a3 : vp.cell? ⟨jp, 3, none⟩ = some (.int .i64 PH) := by rw [cell_of_row _ _ _ _ _ _ rjp]; rfl
          have a4 : vp.cell? ⟨jp, 4, none⟩ = some (.int .i64 CC) := by rw [cell_of_row _ _ _ _ _ _ rjp]; rfl
          have hglp : gg < jp := by omega
          have HJ := Lib.hid (And.intro hjp7 (And.intro hjqp svq))
          clear rjp bvp bvq svp svq hjp7 hjqp
          go_wp2_with (first | (rw [hvp.out]; (try rw [hjp.out])) | (rw [hvq.out]; (try rw [hjq.out])))
          refine (l01Once_any W0 g A n xs 2 _ hCq (by omega)).mono ?_
          rintro e w8 ⟨b8, rfl, hC8, ho8⟩
          obtain ⟨hjp7, hjqp, svq⟩ := HJ.out
          have hacc8 := haccq.only ho8 (by omega)
          have q8 := only_cell' qp ho8 (by omega)
          have rr8 := only_cell' rrp ho8 (by omega)
          have rp8 := only_cell' rpq ho8 (by omega)
          have rq8 := only_cell' rjq ho8 (by omega)
          have hlz8 : lo ≤ w8.heap.size := Nat.le_trans hlzq ho8.size
          have hsz8 : jq < w8.heap.size := by have := ho8.size; omega
          clear hacc7 q7 rr7 hC7 hlz7 l0 l1 l2  ho8 haccq qp rrp rpq rjq hCq hlzq y0 y1 y2 y3 y4 hjp7 hjqp svq
          clear a0 a3 a4
          have p0 : w8.cell? ⟨jp, 0, none⟩ = some (.int .i64 X) := by rw [cell_of_row _ _ _ _ _ _ rp8]; rfl
          have p1 : w8.cell? ⟨jp, 1, none⟩ = some (.int .i64 Y) := by rw [cell_of_row _ _ _ _ _ _ rp8]; rfl
          have p2 : w8.cell? ⟨jp, 2, none⟩ = some (.int .i64 PW) := by rw [cell_of_row _ _ _ _ _ _ rp8]; rfl
          have p3 : w8.cell? ⟨jp, 3, none⟩ = some (.int .i64 PH) := by rw [cell_of_row _ _ _ _ _ _ rp8]; rfl
          have p4 : w8.cell? ⟨jp, 4, none⟩ = some (.int .i64 CC) := by rw [cell_of_row _ _ _ _ _ _ rp8]; rfl
          have q_0 : w8.cell? ⟨jq, 0, none⟩ = some (.int .i64 X) := by rw [cell_of_row _ _ _ _ _ _ rq8]; rfl
          have q_1 : w8.cell? ⟨jq, 1, none⟩ = some (.int .i64 Y) := by rw [cell_of_row _ _ _ _ _ _ rq8]; rfl
          have q_2 : w8.cell? ⟨jq, 2, none⟩ = some (.int .i64 PW) := by rw [cell_of_row _ _ _ _ _ _ rq8]; rfl
          have q_3 : w8.cell? ⟨jq, 3, none⟩ = some (.int .i64 PH) := by rw [cell_of_row _ _ _ _ _ _ rq8]; rfl
          have q_4 : w8.cell? ⟨jq, 4, none⟩ = some (.int .i64 CC) := by rw [cell_of_row _ _ _ _ _ _ rq8]; rfl
          rcases b8 with _ | _
          · skip
            by_cases hH : 1 < PH
            · skip
              go_wp2_with fail
              refine (l01Below_any W0 g A n xs (PH - 1) _ hC8 (by omega)).mono ?_
              rintro e w9 ⟨x9, rfl, hx9, hC9, ho9⟩
              have hx90 := hx9.1
              have hx91 := hx9.2.1 (by omega)
              obtain ⟨hjp7, hjqp, svq⟩ := HJ.out
              have q9 := only_cell' q8 ho9 (by omega)
              have rr9 := only_cell' rr8 ho9 (by omega)
              have rp9 := only_cell' rp8 ho9 (by omega)
              have rq9 := only_cell' rq8 ho9 (by omega)
              have hacc9 := hacc8.only ho9 (by omega)
              have hlz9 : lo ≤ w9.heap.size := Nat.le_trans hlz8 ho9.size
              clear hx9 ho9 q8 rr8 rp8 rq8 hacc8 hlz8 hC8 hsz8 p0 q_0 p1 q_1 p2 q_2 p3 q_3 p4 q_4
              obtain ⟨u1, hu1⟩ : ∃ v, Hid (w9.setCell ⟨jq, 1, none⟩ (.int .i64 (Y + (1 + x9))) = v) := ⟨_, rfl⟩
              obtain ⟨u2, hu2⟩ : ∃ v, Hid (u1.setCell ⟨jq, 3, none⟩ (.int .i64 (PH - (1 + x9))) = v) := ⟨_, rfl⟩
              obtain ⟨u3, hu3⟩ : ∃ v, Hid (u2.setCell ⟨jp, 3, none⟩ (.int .i64 (1 + x9)) = v) := ⟨_, rfl⟩
              have rq1 : u1.heap[jq]? = some (.cells #[.int .i64 X, .int .i64 (Y + (1 + x9)), .int .i64 PW, .int .i64 PH, .int .i64 CC] 44 (0, 0)) := by rw [← hu1.out]; exact row_set _ rq9
              have rq2 : u2.heap[jq]? = some (.cells #[.int .i64 X, .int .i64 (Y + (1 + x9)), .int .i64 PW, .int .i64 (PH - (1 + x9)), .int .i64 CC] 44 (0, 0)) := by rw [← hu2.out]; exact row_set _ rq1
              have rp1 : u1.heap[jp]? = some (.cells #[.int .i64 X, .int .i64 Y, .int .i64 PW, .int .i64 PH, .int .i64 CC] 44 (0, 0)) := by rw [← hu1.out, row_far _ (by omega)]; exact rp9
              have rp2 : u2.heap[jp]? = some (.cells #[.int .i64 X, .int .i64 Y, .int .i64 PW, .int .i64 PH, .int .i64 CC] 44 (0, 0)) := by rw [← hu2.out, row_far _ (by omega)]; exact rp1
              have rp3 : u3.heap[jp]? = some (.cells #[.int .i64 X, .int .i64 Y, .int .i64 PW, .int .i64 (1 + x9), .int .i64 CC] 44 (0, 0)) := by rw [← hu3.out]; exact row_set _ rp2
              have rq3 : u3.heap[jq]? = some (.cells #[.int .i64 X, .int .i64 (Y + (1 + x9)), .int .i64 PW, .int .i64 (PH - (1 + x9)), .int .i64 CC] 44 (0, 0)) := by rw [← hu3.out, row_far _ (by omega)]; exact rq2
              have far3 : ∀ b, b ≠ jq → b ≠ jp → u3.heap[b]? = w9.heap[b]? := fun b b1 b2 => by rw [← hu3.out, row_far _ b2, ← hu2.out, row_far _ b1, ← hu1.out, row_far _ b1]
              have q3_ := (far3 j3 (by omega) (by omega)).trans q9
              have rr3_ := (far3 r2 (by omega) (by omega)).trans rr9
              have sz3 : u3.heap.size = w9.heap.size := by rw [← hu3.out, set_size, ← hu2.out, set_size, ← hu1.out, set_size]
              have hacc3_ : Acc u3 lo 44 5 (.slice (some ⟨gg, 0, none⟩) L c) ps patchC := by
                have e1 : Acc u1 lo 44 5 (.slice (some ⟨gg, 0, none⟩) L c) ps patchC := by rw [← hu1.out]; exact hacc9.kept (grown_at _ jq _ _) (fun q hq e => by have h1 : gg = q := Option.some.inj hq; have h2 := Option.some.inj e; omega)
                have e2 : Acc u2 lo 44 5 (.slice (some ⟨gg, 0, none⟩) L c) ps patchC := by rw [← hu2.out]; exact e1.kept (grown_at _ jq _ _) (fun q hq e => by have h1 : gg = q := Option.some.inj hq; have h2 := Option.some.inj e; omega)
                rw [← hu3.out]; exact e2.kept (grown_at _ jp _ _) (fun q hq e => by have h1 : gg = q := Option.some.inj hq; have h2 := Option.some.inj e; omega)
              have hC3_ : Cur W0 u3 g A n xs := by
                have e1 : Cur W0 u1 g A n xs := by rw [← hu1.out]; exact hC9.grow (grown_at _ jq _ _) (fun e => by have := Option.some.inj e; omega) (fun q e => by have := Option.some.inj e; have := hr2.out; omega)
                have e2 : Cur W0 u2 g A n xs := by rw [← hu2.out]; exact e1.grow (grown_at _ jq _ _) (fun e => by have := Option.some.inj e; omega) (fun q e => by have := Option.some.inj e; have := hr2.out; omega)
                rw [← hu3.out]; exact e2.grow (grown_at _ jp _ _) (fun e => by have := Option.some.inj e; omega) (fun q e => by have := Option.some.inj e; have := hr2.out; omega)
              have pa0 : w9.cell? ⟨jp, 0, none⟩ = some (.int .i64 X) := by rw [cell_of_row _ _ _ _ _ _ rp9]; rfl
              have pa1 : w9.cell? ⟨jp, 1, none⟩ = some (.int .i64 Y) := by rw [cell_of_row _ _ _ _ _ _ rp9]; rfl
              have pa2 : w9.cell? ⟨jp, 2, none⟩ = some (.int .i64 PW) := by rw [cell_of_row _ _ _ _ _ _ rp9]; rfl
              have pa3 : w9.cell? ⟨jp, 3, none⟩ = some (.int .i64 PH) := by rw [cell_of_row _ _ _ _ _ _ rp9]; rfl
              have pa4 : w9.cell? ⟨jp, 4, none⟩ = some (.int .i64 CC) := by rw [cell_of_row _ _ _ _ _ _ rp9]; rfl
              have qa0 : w9.cell? ⟨jq, 0, none⟩ = some (.int .i64 X) := by rw [cell_of_row _ _ _ _ _ _ rq9]; rfl
              have qa1 : w9.cell? ⟨jq, 1, none⟩ = some (.int .i64 Y) := by rw [cell_of_row _ _ _ _ _ _ rq9]; rfl
              have qa2 : w9.cell? ⟨jq, 2, none⟩ = some (.int .i64 PW) := by rw [cell_of_row _ _ _ _ _ _ rq9]; rfl
              have qa3 : w9.cell? ⟨jq, 3, none⟩ = some (.int .i64 PH) := by rw [cell_of_row _ _ _ _ _ _ rq9]; rfl
              have qa4 : w9.cell? ⟨jq, 4, none⟩ = some (.int .i64 CC) := by rw [cell_of_row _ _ _ _ _ _ rq9]; rfl
              have fqa1 : w9.frozen? ⟨jq, 1, none⟩ = false := frozen_of_row _ _ _ _ _ rq9
              have pb0 : u1.cell? ⟨jp, 0, none⟩ = some (.int .i64 X) := by rw [cell_of_row _ _ _ _ _ _ rp1]; rfl
              have pb1 : u1.cell? ⟨jp, 1, none⟩ = some (.int .i64 Y) := by rw [cell_of_row _ _ _ _ _ _ rp1]; rfl
              have pb2 : u1.cell? ⟨jp, 2, none⟩ = some (.int .i64 PW) := by rw [cell_of_row _ _ _ _ _ _ rp1]; rfl
              have pb3 : u1.cell? ⟨jp, 3, none⟩ = some (.int .i64 PH) := by rw [cell_of_row _ _ _ _ _ _ rp1]; rfl
              have pb4 : u1.cell? ⟨jp, 4, none⟩ = some (.int .i64 CC) := by rw [cell_of_row _ _ _ _ _ _ rp1]; rfl
              have qb0 : u1.cell? ⟨jq, 0, none⟩ = some (.int .i64 X) := by rw [cell_of_row _ _ _ _ _ _ rq1]; rfl
              have qb1 : u1.cell? ⟨jq, 1, none⟩ = some (.int .i64 (Y + (1 + x9))) := by rw [cell_of_row _ _ _ _ _ _ rq1]; rfl
              have qb2 : u1.cell? ⟨jq, 2, none⟩ = some (.int .i64 PW) := by rw [cell_of_row _ _ _ _ _ _ rq1]; rfl
              have qb3 : u1.cell? ⟨jq, 3, none⟩ = some (.int .i64 PH) := by rw [cell_of_row _ _ _ _ _ _ rq1]; rfl
              have qb4 : u1.cell? ⟨jq, 4, none⟩ = some (.int .i64 CC) := by rw [cell_of_row _ _ _ _ _ _ rq1]; rfl
              have fqb3 : u1.frozen? ⟨jq, 3, none⟩ = false := frozen_of_row _ _ _ _ _ rq1
              have pc0 : u2.cell? ⟨jp, 0, none⟩ = some (.int .i64 X) := by rw [cell_of_row _ _ _ _ _ _ rp2]; rfl
              have pc1 : u2.cell? ⟨jp, 1, none⟩ = some (.int .i64 Y) := by rw [cell_of_row _ _ _ _ _ _ rp2]; rfl
              have pc2 : u2.cell? ⟨jp, 2, none⟩ = some (.int .i64 PW) := by rw [cell_of_row _ _ _ _ _ _ rp2]; rfl
              have pc3 : u2.cell? ⟨jp, 3, none⟩ = some (.int .i64 PH) := by rw [cell_of_row _ _ _ _ _ _ rp2]; rfl
              have pc4 : u2.cell? ⟨jp, 4, none⟩ = some (.int .i64 CC) := by rw [cell_of_row _ _ _ _ _ _ rp2]; rfl
              have fpc3 : u2.frozen? ⟨jp, 3, none⟩ = false := frozen_of_row _ _ _ _ _ rp2
              have hs1 : IntKind.i64.wrap (Y + (1 + x9)) = Y + (1 + x9) := by simp (disch := omega) only [IntWalk.i64_in]
              have hs2 : IntKind.i64.wrap (PH - (1 + x9)) = PH - (1 + x9) := by simp (disch := omega) only [IntWalk.i64_in]
              have Hrp3 := Lib.hid rp3
              have Hrq3 := Lib.hid rq3
              have Hq3_ := Lib.hid q3_
              have Hrr3_ := Lib.hid rr3_
              have Hhacc3_ := Lib.hid hacc3_
              have Hsz3 := Lib.hid sz3
              have HLZ := Lib.hid hlz9
              clear rp3 rq3 q3_ rr3_ hacc3_ sz3 rq1 rq2 rp1 rp2 rp9 rq9 q9 rr9 hacc9 hlz9 hC9 far3 hjp7 hjqp svq
              go_wp2_with (first | rw [hu1.out] | rw [hu2.out] | rw [hu3.out])
              refine (l01Below_any W0 g A n xs 5 _ hC3_ (by omega)).mono ?_
              rintro e wt ⟨x10, rfl, hx10_, hCt, hot⟩
              have hc0 := hx10_.1
              have hc1 := hx10_.2.1 (by omega)
              obtain ⟨hjp7, hjqp, svq⟩ := HJ.out
              have qt := only_cell' Hq3_.out hot (by omega)
              have rrt := only_cell' Hrr3_.out hot (by omega)
              have rpt := only_cell' Hrp3.out hot (by omega)
              have rqt := only_cell' Hrq3.out hot (by omega)
              have hacct := Hhacc3_.out.only hot (by omega)
              have hlzt : lo ≤ wt.heap.size := by have h1 := HLZ.out; have h2 := hot.size; have h3 := Hsz3.out; omega
              clear hC3_ hx10_ hot pa0 qa0 pb0 qb0 pc0 pa1 qa1 pb1 qb1 pc1 pa2 qa2 pb2 qb2 pc2 pa3 qa3 pb3 qb3 pc3 pa4 qa4 pb4 qb4 pc4 fqa1 fqb3 fpc3
              obtain ⟨u4, hu4⟩ : ∃ v, Hid (wt.setCell ⟨jq, 4, none⟩ (.int .i64 x10) = v) := ⟨_, rfl⟩
              have rq4 : u4.heap[jq]? = some (.cells #[.int .i64 X, .int .i64 (Y + (1 + x9)), .int .i64 PW, .int .i64 (PH - (1 + x9)), .int .i64 x10] 44 (0, 0)) := by rw [← hu4.out]; exact row_set _ rqt
              have far4 : ∀ b, b ≠ jq → u4.heap[b]? = wt.heap[b]? := fun b b1 => by rw [← hu4.out, row_far _ b1]
              have rp4 := (far4 jp (by omega)).trans rpt
              have q4 := (far4 j3 (by omega)).trans qt
              have rr4 := (far4 r2 (by omega)).trans rrt
              have hacc4 : Acc u4 lo 44 5 (.slice (some ⟨gg, 0, none⟩) L c) ps patchC := by rw [← hu4.out]; exact hacct.kept (grown_at _ jq _ _) (fun q hq e => by have h1 : gg = q := Option.some.inj hq; have h2 := Option.some.inj e; omega)
              have hC4 : Cur W0 u4 g A n xs := by rw [← hu4.out]; exact hCt.grow (grown_at _ jq _ _) (fun e => by have := Option.some.inj e; omega) (fun q e => by have := Option.some.inj e; have := hr2.out; omega)
              have hlz4 : lo ≤ u4.heap.size := by rw [← hu4.out, set_size]; exact hlzt
              rw [← HLEN.out] at hacc4
              obtain ⟨gb, cgb, ev, _, _, hcB, hfB⟩ := hacc4.cells_at patchC_len HY.out
              injection ev with ev1 ev3 ev4
              injection ev1 with ev1
              injection ev1 with ev1 _ _
              subst ev1
              clear ev3 ev4
              have yb0 := hcB 0 _ rfl
              have fb0 := hfB (p * 5 + 0)
              have yb1 := hcB 1 _ rfl
              have fb1 := hfB (p * 5 + 1)
              have yb2 := hcB 2 _ rfl
              have fb2 := hfB (p * 5 + 2)
              have yb3 := hcB 3 _ rfl
              have fb3 := hfB (p * 5 + 3)
              have yb4 := hcB 4 _ rfl
              have fb4 := hfB (p * 5 + 4)
              rw [Nat.add_zero] at yb0 fb0
              clear hcB hfB
              obtain ⟨u5, hu5⟩ : ∃ v, Hid ((((((u4.setCell ⟨gg, p * 5, none⟩ (.int .i64 X)).setCell ⟨gg, p * 5 + 1, none⟩ (.int .i64 Y)).setCell ⟨gg, p * 5 + 2, none⟩ (.int .i64 PW)).setCell ⟨gg, p * 5 + 3, none⟩ (.int .i64 (1 + x9))).setCell ⟨gg, p * 5 + 4, none⟩ (.int .i64 CC)) = v) := ⟨_, rfl⟩
              have hacc5 : Acc u5 lo 44 5 (.slice (some ⟨gg, 0, none⟩) ps.length c) (ps.set p ⟨X, Y, PW, (1 + x9), CC⟩) patchC := by
                have hx0 : ps[p]? = some (⟨X, Y, PW, PH, CC⟩ : Patch) := HY.out
                have hpl : p < ps.length := (List.getElem?_eq_some_iff.1 hx0).1
                have s0 := (Acc.put hacc4 patchC_len (p := p) (j := 0) (x := ⟨X, Y, PW, PH, CC⟩) (y := ⟨X, Y, PW, PH, CC⟩) (u := .int .i64 X) hx0 (by omega) rfl).1
                have hx1 : (ps.set p (⟨X, Y, PW, PH, CC⟩ : Patch))[p]? = some (⟨X, Y, PW, PH, CC⟩ : Patch) := by rw [List.getElem?_set_self (by first | omega | (simp; omega))]
                rw [show (ps).length = (ps.set p (⟨X, Y, PW, PH, CC⟩ : Patch)).length by simp] at s0
                have s1 := (Acc.put s0 patchC_len (p := p) (j := 1) (x := ⟨X, Y, PW, PH, CC⟩) (y := ⟨X, Y, PW, PH, CC⟩) (u := .int .i64 Y) hx1 (by omega) rfl).1
                have hx2 : ((ps.set p (⟨X, Y, PW, PH, CC⟩ : Patch)).set p (⟨X, Y, PW, PH, CC⟩ : Patch))[p]? = some (⟨X, Y, PW, PH, CC⟩ : Patch) := by rw [List.getElem?_set_self (by first | omega | (simp; omega))]
                rw [show ((ps.set p (⟨X, Y, PW, PH, CC⟩ : Patch))).length = ((ps.set p (⟨X, Y, PW, PH, CC⟩ : Patch)).set p (⟨X, Y, PW, PH, CC⟩ : Patch)).length by simp] at s1
                have s2 := (Acc.put s1 patchC_len (p := p) (j := 2) (x := ⟨X, Y, PW, PH, CC⟩) (y := ⟨X, Y, PW, PH, CC⟩) (u := .int .i64 PW) hx2 (by omega) rfl).1
                have hx3 : (((ps.set p (⟨X, Y, PW, PH, CC⟩ : Patch)).set p (⟨X, Y, PW, PH, CC⟩ : Patch)).set p (⟨X, Y, PW, PH, CC⟩ : Patch))[p]? = some (⟨X, Y, PW, PH, CC⟩ : Patch) := by rw [List.getElem?_set_self (by first | omega | (simp; omega))]
                rw [show (((ps.set p (⟨X, Y, PW, PH, CC⟩ : Patch)).set p (⟨X, Y, PW, PH, CC⟩ : Patch))).length = (((ps.set p (⟨X, Y, PW, PH, CC⟩ : Patch)).set p (⟨X, Y, PW, PH, CC⟩ : Patch)).set p (⟨X, Y, PW, PH, CC⟩ : Patch)).length by simp] at s2
                have s3 := (Acc.put s2 patchC_len (p := p) (j := 3) (x := ⟨X, Y, PW, PH, CC⟩) (y := ⟨X, Y, PW, (1 + x9), CC⟩) (u := .int .i64 (1 + x9)) hx3 (by omega) rfl).1
                have hx4 : ((((ps.set p (⟨X, Y, PW, PH, CC⟩ : Patch)).set p (⟨X, Y, PW, PH, CC⟩ : Patch)).set p (⟨X, Y, PW, PH, CC⟩ : Patch)).set p (⟨X, Y, PW, (1 + x9), CC⟩ : Patch))[p]? = some (⟨X, Y, PW, (1 + x9), CC⟩ : Patch) := by rw [List.getElem?_set_self (by first | omega | (simp; omega))]
                rw [show ((((ps.set p (⟨X, Y, PW, PH, CC⟩ : Patch)).set p (⟨X, Y, PW, PH, CC⟩ : Patch)).set p (⟨X, Y, PW, PH, CC⟩ : Patch))).length = ((((ps.set p (⟨X, Y, PW, PH, CC⟩ : Patch)).set p (⟨X, Y, PW, PH, CC⟩ : Patch)).set p (⟨X, Y, PW, PH, CC⟩ : Patch)).set p (⟨X, Y, PW, (1 + x9), CC⟩ : Patch)).length by simp] at s3
                have s4 := (Acc.put s3 patchC_len (p := p) (j := 4) (x := ⟨X, Y, PW, (1 + x9), CC⟩) (y := ⟨X, Y, PW, (1 + x9), CC⟩) (u := .int .i64 CC) hx4 (by omega) rfl).1
                simp only [List.set_set, List.length_set, Nat.add_zero] at s4
                rw [hu5.out] at s4
                exact s4
              have far5 : ∀ b, b ≠ gg → u5.heap[b]? = u4.heap[b]? := fun b b1 => by rw [← hu5.out, row_far _ b1, row_far _ b1, row_far _ b1, row_far _ b1, row_far _ b1]
              have q5_ := (far5 j3 (by omega)).trans q4
              have rr5_ := (far5 r2 (by omega)).trans rr4
              have rq5 := (far5 jq (by omega)).trans rq4
              have hC5_ : Cur W0 u5 g A n xs := by rw [← hu5.out]; exact ((((hC4.grow (grown_at _ gg _ _) (fun e => by have := Option.some.inj e; omega) (fun q e => by have := Option.some.inj e; have := hr2.out; omega)).grow (grown_at _ gg _ _) (fun e => by have := Option.some.inj e; omega) (fun q e => by have := Option.some.inj e; have := hr2.out; omega)).grow (grown_at _ gg _ _) (fun e => by have := Option.some.inj e; omega) (fun q e => by have := Option.some.inj e; have := hr2.out; omega)).grow (grown_at _ gg _ _) (fun e => by have := Option.some.inj e; omega) (fun q e => by have := Option.some.inj e; have := hr2.out; omega)).grow (grown_at _ gg _ _) (fun e => by have := Option.some.inj e; omega) (fun q e => by have := Option.some.inj e; have := hr2.out; omega)
              have hlz5_ : lo ≤ u5.heap.size := by rw [← hu5.out, set_size, set_size, set_size, set_size, set_size]; exact hlz4
              have ta0 : wt.cell? ⟨jq, 0, none⟩ = some (.int .i64 X) := by rw [cell_of_row _ _ _ _ _ _ rqt]; rfl
              have ta1 : wt.cell? ⟨jq, 1, none⟩ = some (.int .i64 (Y + (1 + x9))) := by rw [cell_of_row _ _ _ _ _ _ rqt]; rfl
              have ta2 : wt.cell? ⟨jq, 2, none⟩ = some (.int .i64 PW) := by rw [cell_of_row _ _ _ _ _ _ rqt]; rfl
              have ta3 : wt.cell? ⟨jq, 3, none⟩ = some (.int .i64 (PH - (1 + x9))) := by rw [cell_of_row _ _ _ _ _ _ rqt]; rfl
              have ta4 : wt.cell? ⟨jq, 4, none⟩ = some (.int .i64 CC) := by rw [cell_of_row _ _ _ _ _ _ rqt]; rfl
              have fta4 : wt.frozen? ⟨jq, 4, none⟩ = false := frozen_of_row _ _ _ _ _ rqt
              have tb0 : u4.cell? ⟨jp, 0, none⟩ = some (.int .i64 X) := by rw [cell_of_row _ _ _ _ _ _ rp4]; rfl
              have tb1 : u4.cell? ⟨jp, 1, none⟩ = some (.int .i64 Y) := by rw [cell_of_row _ _ _ _ _ _ rp4]; rfl
              have tb2 : u4.cell? ⟨jp, 2, none⟩ = some (.int .i64 PW) := by rw [cell_of_row _ _ _ _ _ _ rp4]; rfl
              have tb3 : u4.cell? ⟨jp, 3, none⟩ = some (.int .i64 (1 + x9)) := by rw [cell_of_row _ _ _ _ _ _ rp4]; rfl
              have tb4 : u4.cell? ⟨jp, 4, none⟩ = some (.int .i64 CC) := by rw [cell_of_row _ _ _ _ _ _ rp4]; rfl
              have tc0 : u4.cell? ⟨j3, 0, none⟩ = some (.int .i64 ww) := by rw [cell_of_row _ _ _ _ _ _ q4]; rfl
              have tc1 : u4.cell? ⟨j3, 1, none⟩ = some (.int .i64 hh) := by rw [cell_of_row _ _ _ _ _ _ q4]; rfl
              have tc2 : u4.cell? ⟨j3, 2, none⟩ = some (.slice (some ⟨gg, 0, none⟩) L c) := by rw [cell_of_row _ _ _ _ _ _ q4]; rfl
              have td0 : u5.cell? ⟨jq, 0, none⟩ = some (.int .i64 X) := by rw [cell_of_row _ _ _ _ _ _ rq5]; rfl
              have td1 : u5.cell? ⟨jq, 1, none⟩ = some (.int .i64 (Y + (1 + x9))) := by rw [cell_of_row _ _ _ _ _ _ rq5]; rfl
              have td2 : u5.cell? ⟨jq, 2, none⟩ = some (.int .i64 PW) := by rw [cell_of_row _ _ _ _ _ _ rq5]; rfl
              have td3 : u5.cell? ⟨jq, 3, none⟩ = some (.int .i64 (PH - (1 + x9))) := by rw [cell_of_row _ _ _ _ _ _ rq5]; rfl
              have td4 : u5.cell? ⟨jq, 4, none⟩ = some (.int .i64 x10) := by rw [cell_of_row _ _ _ _ _ _ rq5]; rfl
              have te0 : u5.cell? ⟨j3, 0, none⟩ = some (.int .i64 ww) := by rw [cell_of_row _ _ _ _ _ _ q5_]; rfl
              have te1 : u5.cell? ⟨j3, 1, none⟩ = some (.int .i64 hh) := by rw [cell_of_row _ _ _ _ _ _ q5_]; rfl
              have te2 : u5.cell? ⟨j3, 2, none⟩ = some (.slice (some ⟨gg, 0, none⟩) L c) := by rw [cell_of_row _ _ _ _ _ _ q5_]; rfl
              have hpI : (p : Int) < (L : Int) := by omega
              have HOK2 := Lib.hid (cut_y hok.out HY.out (show ps.length < 12 by have := HLEN.out; omega) (a := 1 + x9) (c2 := x10) (by omega) (by omega) (by omega) (by omega))
              have hlen5 : (ps.set p ⟨X, Y, PW, (1 + x9), CC⟩).length = L := by rw [List.length_set]; exact HLEN.out
              rw [HLEN.out] at hacc5
              have hln5 : (ps.set p ⟨X, Y, PW, (1 + x9), CC⟩).length + 1 ≤ 4294967296 := by omega
              have HQ5 := Lib.hid q5_
              have HLL := Lib.hid hlen5
              have HRR := Lib.hid rr5_
              have HC5 := Lib.hid hC5_
              clear rq4 far4 rp4 q4 rr4 hacc4 hC4 hlz4 rpt rqt qt rrt hacct hCt hlzt far5 rq5 q5_ hlen5 rr5_ hC5_ hjp7 hjqp svq
              go_wp2_with (first | rw [hu4.out] | rw [hu5.out] | (at_builtin; refine wpList_acc1 rfl _ _ 28 rfl lo 44 (.agg #[.int .i64 0, .int .i64 0, .int .i64 0, .int .i64 0, .int .i64 0]) 5 40 Try.underlying28 infoPatch rfl (by omega) _ (ps.set p ⟨X, Y, PW, (1 + x9), CC⟩) patchC ⟨X, Y + (1 + x9), PW, PH - (1 + x9), x10⟩ rfl hacc5 _ _ rfl _ rfl (by simp) rfl (by simp [patchC, Value.oneCell']) hln5 (by omega) hlz5_ ?_; intro v7 w7_ hacc7 hgrow7 hat7; have hch7 : ∀ b, b < lo → w7_.heap[b]? = u5.heap[b]? := fun b hb => hgrow7.block b (by omega) (fun e => by have := (hacc5.row e.symm).1; omega); have f7 : w7_.frozen? ⟨j3, 2, none⟩ = false := frozen_of_row _ _ _ _ _ ((hch7 j3 hjl).trans HQ5.out); have c7 := cell_blk te2 (hch7 j3 hjl); obtain ⟨G7, L7, c7', e7⟩ : ∃ (G L : Nat) (cc : Nat), v7 = .slice (some ⟨G, 0, none⟩) L cc ∧ L = (ps.set p ⟨X, Y, PW, (1 + x9), CC⟩).length + 1 := (by obtain ⟨G, cc, ev, _⟩ := hacc7.cells_at patchC_len (p := (ps.set p ⟨X, Y, PW, (1 + x9), CC⟩).length) (x := ⟨X, Y + (1 + x9), PW, PH - (1 + x9), x10⟩) List.getElem?_concat_length; exact ⟨G, _, cc, ev, List.length_append⟩); obtain ⟨e7, e8⟩ := e7; have E7 := Lib.hid e7; have E8 := Lib.hid e8; rw [e7]; clear e7 e8))
              go_roundw
              case rel =>
                have q9 := row_set (o := 2) (.slice (some ⟨G7, 0, none⟩) L7 c7') ((hch7 j3 hjl).trans HQ5.out)
                rw [E7.out] at hacc7
                have hacc9 := acc_low hacc7 hjl (o := 2) (.slice (some ⟨G7, 0, none⟩) L7 c7')
                have rr9 := (row_far (w := w7_) (b := j3) (o := 2) (.slice (some ⟨G7, 0, none⟩) L7 c7') (show r2 ≠ j3 by omega)).trans ((hch7 r2 (by omega)).trans HRR.out)
                have hcr : W0.heap.size ≤ r2 := by have := hr2.out; omega
                have hC9 := (HC5.out.grow hgrow7 (fun e => by have := (hacc5.row e).1; omega) (fun q hq => by have := (hacc5.row hq).1; omega)).grow (grown_at _ j3 2 (.slice (some ⟨G7, 0, none⟩) L7 c7')) (fun e => by have := Option.some.inj e; omega) (fun q e => by have := Option.some.inj e; omega)
                exact ⟨k + 1, L7, c7', G7, _, HKM.out, by go_num, q9, hacc9, by rw [List.length_append, E8.out]; rfl, HOK2.out, rr9, hC9, by rw [set_size]; exact Nat.le_trans hlz5_ hgrow7.size⟩
              case measure => have := HKM.out; simp [intOf]; omega
            · have hH2 := Int.not_lt.1 hH
              go_wp2_with fail
              go_roundw
              case rel => exact ⟨k + 1, L, c, gg, ps, HKM.out, by go_num, q8, hacc8, HLEN.out, hok, rr8, hC8, hlz8⟩
              case measure => have := HKM.out; simp [intOf]; omega
          · by_cases hW : 1 < PW
            · skip
              go_wp2_with fail
              refine (l01Below_any W0 g A n xs (PW - 1) _ hC8 (by omega)).mono ?_
              rintro e w9 ⟨x9, rfl, hx9, hC9, ho9⟩
              have hx90 := hx9.1
              have hx91 := hx9.2.1 (by omega)
              obtain ⟨hjp7, hjqp, svq⟩ := HJ.out
              have q9 := only_cell' q8 ho9 (by omega)
              have rr9 := only_cell' rr8 ho9 (by omega)
              have rp9 := only_cell' rp8 ho9 (by omega)
              have rq9 := only_cell' rq8 ho9 (by omega)
              have hacc9 := hacc8.only ho9 (by omega)
              have hlz9 : lo ≤ w9.heap.size := Nat.le_trans hlz8 ho9.size
              clear hx9 ho9 q8 rr8 rp8 rq8 hacc8 hlz8 hC8 hsz8 p0 q_0 p1 q_1 p2 q_2 p3 q_3 p4 q_4
              obtain ⟨u1, hu1⟩ : ∃ v, Hid (w9.setCell ⟨jq, 0, none⟩ (.int .i64 (X + (1 + x9))) = v) := ⟨_, rfl⟩
              obtain ⟨u2, hu2⟩ : ∃ v, Hid (u1.setCell ⟨jq, 2, none⟩ (.int .i64 (PW - (1 + x9))) = v) := ⟨_, rfl⟩
              obtain ⟨u3, hu3⟩ : ∃ v, Hid (u2.setCell ⟨jp, 2, none⟩ (.int .i64 (1 + x9)) = v) := ⟨_, rfl⟩
              have rq1 : u1.heap[jq]? = some (.cells #[.int .i64 (X + (1 + x9)), .int .i64 Y, .int .i64 PW, .int .i64 PH, .int .i64 CC] 44 (0, 0)) := by rw [← hu1.out]; exact row_set _ rq9
              have rq2 : u2.heap[jq]? = some (.cells #[.int .i64 (X + (1 + x9)), .int .i64 Y, .int .i64 (PW - (1 + x9)), .int .i64 PH, .int .i64 CC] 44 (0, 0)) := by rw [← hu2.out]; exact row_set _ rq1
              have rp1 : u1.heap[jp]? = some (.cells #[.int .i64 X, .int .i64 Y, .int .i64 PW, .int .i64 PH, .int .i64 CC] 44 (0, 0)) := by rw [← hu1.out, row_far _ (by omega)]; exact rp9
              have rp2 : u2.heap[jp]? = some (.cells #[.int .i64 X, .int .i64 Y, .int .i64 PW, .int .i64 PH, .int .i64 CC] 44 (0, 0)) := by rw [← hu2.out, row_far _ (by omega)]; exact rp1
              have rp3 : u3.heap[jp]? = some (.cells #[.int .i64 X, .int .i64 Y, .int .i64 (1 + x9), .int .i64 PH, .int .i64 CC] 44 (0, 0)) := by rw [← hu3.out]; exact row_set _ rp2
              have rq3 : u3.heap[jq]? = some (.cells #[.int .i64 (X + (1 + x9)), .int .i64 Y, .int .i64 (PW - (1 + x9)), .int .i64 PH, .int .i64 CC] 44 (0, 0)) := by rw [← hu3.out, row_far _ (by omega)]; exact rq2
              have far3 : ∀ b, b ≠ jq → b ≠ jp → u3.heap[b]? = w9.heap[b]? := fun b b1 b2 => by rw [← hu3.out, row_far _ b2, ← hu2.out, row_far _ b1, ← hu1.out, row_far _ b1]
              have q3_ := (far3 j3 (by omega) (by omega)).trans q9
              have rr3_ := (far3 r2 (by omega) (by omega)).trans rr9
              have sz3 : u3.heap.size = w9.heap.size := by rw [← hu3.out, set_size, ← hu2.out, set_size, ← hu1.out, set_size]
              have hacc3_ : Acc u3 lo 44 5 (.slice (some ⟨gg, 0, none⟩) L c) ps patchC := by
                have e1 : Acc u1 lo 44 5 (.slice (some ⟨gg, 0, none⟩) L c) ps patchC := by rw [← hu1.out]; exact hacc9.kept (grown_at _ jq _ _) (fun q hq e => by have h1 : gg = q := Option.some.inj hq; have h2 := Option.some.inj e; omega)
                have e2 : Acc u2 lo 44 5 (.slice (some ⟨gg, 0, none⟩) L c) ps patchC := by rw [← hu2.out]; exact e1.kept (grown_at _ jq _ _) (fun q hq e => by have h1 : gg = q := Option.some.inj hq; have h2 := Option.some.inj e; omega)
                rw [← hu3.out]; exact e2.kept (grown_at _ jp _ _) (fun q hq e => by have h1 : gg = q := Option.some.inj hq; have h2 := Option.some.inj e; omega)
              have hC3_ : Cur W0 u3 g A n xs := by
                have e1 : Cur W0 u1 g A n xs := by rw [← hu1.out]; exact hC9.grow (grown_at _ jq _ _) (fun e => by have := Option.some.inj e; omega) (fun q e => by have := Option.some.inj e; have := hr2.out; omega)
                have e2 : Cur W0 u2 g A n xs := by rw [← hu2.out]; exact e1.grow (grown_at _ jq _ _) (fun e => by have := Option.some.inj e; omega) (fun q e => by have := Option.some.inj e; have := hr2.out; omega)
                rw [← hu3.out]; exact e2.grow (grown_at _ jp _ _) (fun e => by have := Option.some.inj e; omega) (fun q e => by have := Option.some.inj e; have := hr2.out; omega)
              have pa0 : w9.cell? ⟨jp, 0, none⟩ = some (.int .i64 X) := by rw [cell_of_row _ _ _ _ _ _ rp9]; rfl
              have pa1 : w9.cell? ⟨jp, 1, none⟩ = some (.int .i64 Y) := by rw [cell_of_row _ _ _ _ _ _ rp9]; rfl
              have pa2 : w9.cell? ⟨jp, 2, none⟩ = some (.int .i64 PW) := by rw [cell_of_row _ _ _ _ _ _ rp9]; rfl
              have pa3 : w9.cell? ⟨jp, 3, none⟩ = some (.int .i64 PH) := by rw [cell_of_row _ _ _ _ _ _ rp9]; rfl
              have pa4 : w9.cell? ⟨jp, 4, none⟩ = some (.int .i64 CC) := by rw [cell_of_row _ _ _ _ _ _ rp9]; rfl
              have qa0 : w9.cell? ⟨jq, 0, none⟩ = some (.int .i64 X) := by rw [cell_of_row _ _ _ _ _ _ rq9]; rfl
              have qa1 : w9.cell? ⟨jq, 1, none⟩ = some (.int .i64 Y) := by rw [cell_of_row _ _ _ _ _ _ rq9]; rfl
              have qa2 : w9.cell? ⟨jq, 2, none⟩ = some (.int .i64 PW) := by rw [cell_of_row _ _ _ _ _ _ rq9]; rfl
              have qa3 : w9.cell? ⟨jq, 3, none⟩ = some (.int .i64 PH) := by rw [cell_of_row _ _ _ _ _ _ rq9]; rfl
              have qa4 : w9.cell? ⟨jq, 4, none⟩ = some (.int .i64 CC) := by rw [cell_of_row _ _ _ _ _ _ rq9]; rfl
              have fqa0 : w9.frozen? ⟨jq, 0, none⟩ = false := frozen_of_row _ _ _ _ _ rq9
              have pb0 : u1.cell? ⟨jp, 0, none⟩ = some (.int .i64 X) := by rw [cell_of_row _ _ _ _ _ _ rp1]; rfl
              have pb1 : u1.cell? ⟨jp, 1, none⟩ = some (.int .i64 Y) := by rw [cell_of_row _ _ _ _ _ _ rp1]; rfl
              have pb2 : u1.cell? ⟨jp, 2, none⟩ = some (.int .i64 PW) := by rw [cell_of_row _ _ _ _ _ _ rp1]; rfl
              have pb3 : u1.cell? ⟨jp, 3, none⟩ = some (.int .i64 PH) := by rw [cell_of_row _ _ _ _ _ _ rp1]; rfl
              have pb4 : u1.cell? ⟨jp, 4, none⟩ = some (.int .i64 CC) := by rw [cell_of_row _ _ _ _ _ _ rp1]; rfl
              have qb0 : u1.cell? ⟨jq, 0, none⟩ = some (.int .i64 (X + (1 + x9))) := by rw [cell_of_row _ _ _ _ _ _ rq1]; rfl
              have qb1 : u1.cell? ⟨jq, 1, none⟩ = some (.int .i64 Y) := by rw [cell_of_row _ _ _ _ _ _ rq1]; rfl
              have qb2 : u1.cell? ⟨jq, 2, none⟩ = some (.int .i64 PW) := by rw [cell_of_row _ _ _ _ _ _ rq1]; rfl
              have qb3 : u1.cell? ⟨jq, 3, none⟩ = some (.int .i64 PH) := by rw [cell_of_row _ _ _ _ _ _ rq1]; rfl
              have qb4 : u1.cell? ⟨jq, 4, none⟩ = some (.int .i64 CC) := by rw [cell_of_row _ _ _ _ _ _ rq1]; rfl
              have fqb2 : u1.frozen? ⟨jq, 2, none⟩ = false := frozen_of_row _ _ _ _ _ rq1
              have pc0 : u2.cell? ⟨jp, 0, none⟩ = some (.int .i64 X) := by rw [cell_of_row _ _ _ _ _ _ rp2]; rfl
              have pc1 : u2.cell? ⟨jp, 1, none⟩ = some (.int .i64 Y) := by rw [cell_of_row _ _ _ _ _ _ rp2]; rfl
              have pc2 : u2.cell? ⟨jp, 2, none⟩ = some (.int .i64 PW) := by rw [cell_of_row _ _ _ _ _ _ rp2]; rfl
              have pc3 : u2.cell? ⟨jp, 3, none⟩ = some (.int .i64 PH) := by rw [cell_of_row _ _ _ _ _ _ rp2]; rfl
              have pc4 : u2.cell? ⟨jp, 4, none⟩ = some (.int .i64 CC) := by rw [cell_of_row _ _ _ _ _ _ rp2]; rfl
              have fpc2 : u2.frozen? ⟨jp, 2, none⟩ = false := frozen_of_row _ _ _ _ _ rp2
              have hs1 : IntKind.i64.wrap (X + (1 + x9)) = X + (1 + x9) := by simp (disch := omega) only [IntWalk.i64_in]
              have hs2 : IntKind.i64.wrap (PW - (1 + x9)) = PW - (1 + x9) := by simp (disch := omega) only [IntWalk.i64_in]
              have Hrp3 := Lib.hid rp3
              have Hrq3 := Lib.hid rq3
              have Hq3_ := Lib.hid q3_
              have Hrr3_ := Lib.hid rr3_
              have Hhacc3_ := Lib.hid hacc3_
              have Hsz3 := Lib.hid sz3
              have HLZ := Lib.hid hlz9
              clear rp3 rq3 q3_ rr3_ hacc3_ sz3 rq1 rq2 rp1 rp2 rp9 rq9 q9 rr9 hacc9 hlz9 hC9 far3 hjp7 hjqp svq
              go_wp2_with (first | rw [hu1.out] | rw [hu2.out] | rw [hu3.out])
              refine (l01Below_any W0 g A n xs 5 _ hC3_ (by omega)).mono ?_
              rintro e wt ⟨x10, rfl, hx10_, hCt, hot⟩
              have hc0 := hx10_.1
              have hc1 := hx10_.2.1 (by omega)
              obtain ⟨hjp7, hjqp, svq⟩ := HJ.out
              have qt := only_cell' Hq3_.out hot (by omega)
              have rrt := only_cell' Hrr3_.out hot (by omega)
              have rpt := only_cell' Hrp3.out hot (by omega)
              have rqt := only_cell' Hrq3.out hot (by omega)
              have hacct := Hhacc3_.out.only hot (by omega)
              have hlzt : lo ≤ wt.heap.size := by have h1 := HLZ.out; have h2 := hot.size; have h3 := Hsz3.out; omega
              clear hC3_ hx10_ hot pa0 qa0 pb0 qb0 pc0 pa1 qa1 pb1 qb1 pc1 pa2 qa2 pb2 qb2 pc2 pa3 qa3 pb3 qb3 pc3 pa4 qa4 pb4 qb4 pc4 fqa0 fqb2 fpc2
              obtain ⟨u4, hu4⟩ : ∃ v, Hid (wt.setCell ⟨jq, 4, none⟩ (.int .i64 x10) = v) := ⟨_, rfl⟩
              have rq4 : u4.heap[jq]? = some (.cells #[.int .i64 (X + (1 + x9)), .int .i64 Y, .int .i64 (PW - (1 + x9)), .int .i64 PH, .int .i64 x10] 44 (0, 0)) := by rw [← hu4.out]; exact row_set _ rqt
              have far4 : ∀ b, b ≠ jq → u4.heap[b]? = wt.heap[b]? := fun b b1 => by rw [← hu4.out, row_far _ b1]
              have rp4 := (far4 jp (by omega)).trans rpt
              have q4 := (far4 j3 (by omega)).trans qt
              have rr4 := (far4 r2 (by omega)).trans rrt
              have hacc4 : Acc u4 lo 44 5 (.slice (some ⟨gg, 0, none⟩) L c) ps patchC := by rw [← hu4.out]; exact hacct.kept (grown_at _ jq _ _) (fun q hq e => by have h1 : gg = q := Option.some.inj hq; have h2 := Option.some.inj e; omega)
              have hC4 : Cur W0 u4 g A n xs := by rw [← hu4.out]; exact hCt.grow (grown_at _ jq _ _) (fun e => by have := Option.some.inj e; omega) (fun q e => by have := Option.some.inj e; have := hr2.out; omega)
              have hlz4 : lo ≤ u4.heap.size := by rw [← hu4.out, set_size]; exact hlzt
              rw [← HLEN.out] at hacc4
              obtain ⟨gb, cgb, ev, _, _, hcB, hfB⟩ := hacc4.cells_at patchC_len HY.out
              injection ev with ev1 ev3 ev4
              injection ev1 with ev1
              injection ev1 with ev1 _ _
              subst ev1
              clear ev3 ev4
              have yb0 := hcB 0 _ rfl
              have fb0 := hfB (p * 5 + 0)
              have yb1 := hcB 1 _ rfl
              have fb1 := hfB (p * 5 + 1)
              have yb2 := hcB 2 _ rfl
              have fb2 := hfB (p * 5 + 2)
              have yb3 := hcB 3 _ rfl
              have fb3 := hfB (p * 5 + 3)
              have yb4 := hcB 4 _ rfl
              have fb4 := hfB (p * 5 + 4)
              rw [Nat.add_zero] at yb0 fb0
              clear hcB hfB
              obtain ⟨u5, hu5⟩ : ∃ v, Hid ((((((u4.setCell ⟨gg, p * 5, none⟩ (.int .i64 X)).setCell ⟨gg, p * 5 + 1, none⟩ (.int .i64 Y)).setCell ⟨gg, p * 5 + 2, none⟩ (.int .i64 (1 + x9))).setCell ⟨gg, p * 5 + 3, none⟩ (.int .i64 PH)).setCell ⟨gg, p * 5 + 4, none⟩ (.int .i64 CC)) = v) := ⟨_, rfl⟩
              have hacc5 : Acc u5 lo 44 5 (.slice (some ⟨gg, 0, none⟩) ps.length c) (ps.set p ⟨X, Y, (1 + x9), PH, CC⟩) patchC := by
                have hx0 : ps[p]? = some (⟨X, Y, PW, PH, CC⟩ : Patch) := HY.out
                have hpl : p < ps.length := (List.getElem?_eq_some_iff.1 hx0).1
                have s0 := (Acc.put hacc4 patchC_len (p := p) (j := 0) (x := ⟨X, Y, PW, PH, CC⟩) (y := ⟨X, Y, PW, PH, CC⟩) (u := .int .i64 X) hx0 (by omega) rfl).1
                have hx1 : (ps.set p (⟨X, Y, PW, PH, CC⟩ : Patch))[p]? = some (⟨X, Y, PW, PH, CC⟩ : Patch) := by rw [List.getElem?_set_self (by first | omega | (simp; omega))]
                rw [show (ps).length = (ps.set p (⟨X, Y, PW, PH, CC⟩ : Patch)).length by simp] at s0
                have s1 := (Acc.put s0 patchC_len (p := p) (j := 1) (x := ⟨X, Y, PW, PH, CC⟩) (y := ⟨X, Y, PW, PH, CC⟩) (u := .int .i64 Y) hx1 (by omega) rfl).1
                have hx2 : ((ps.set p (⟨X, Y, PW, PH, CC⟩ : Patch)).set p (⟨X, Y, PW, PH, CC⟩ : Patch))[p]? = some (⟨X, Y, PW, PH, CC⟩ : Patch) := by rw [List.getElem?_set_self (by first | omega | (simp; omega))]
                rw [show ((ps.set p (⟨X, Y, PW, PH, CC⟩ : Patch))).length = ((ps.set p (⟨X, Y, PW, PH, CC⟩ : Patch)).set p (⟨X, Y, PW, PH, CC⟩ : Patch)).length by simp] at s1
                have s2 := (Acc.put s1 patchC_len (p := p) (j := 2) (x := ⟨X, Y, PW, PH, CC⟩) (y := ⟨X, Y, (1 + x9), PH, CC⟩) (u := .int .i64 (1 + x9)) hx2 (by omega) rfl).1
                have hx3 : (((ps.set p (⟨X, Y, PW, PH, CC⟩ : Patch)).set p (⟨X, Y, PW, PH, CC⟩ : Patch)).set p (⟨X, Y, (1 + x9), PH, CC⟩ : Patch))[p]? = some (⟨X, Y, (1 + x9), PH, CC⟩ : Patch) := by rw [List.getElem?_set_self (by first | omega | (simp; omega))]
                rw [show (((ps.set p (⟨X, Y, PW, PH, CC⟩ : Patch)).set p (⟨X, Y, PW, PH, CC⟩ : Patch))).length = (((ps.set p (⟨X, Y, PW, PH, CC⟩ : Patch)).set p (⟨X, Y, PW, PH, CC⟩ : Patch)).set p (⟨X, Y, (1 + x9), PH, CC⟩ : Patch)).length by simp] at s2
                have s3 := (Acc.put s2 patchC_len (p := p) (j := 3) (x := ⟨X, Y, (1 + x9), PH, CC⟩) (y := ⟨X, Y, (1 + x9), PH, CC⟩) (u := .int .i64 PH) hx3 (by omega) rfl).1
                have hx4 : ((((ps.set p (⟨X, Y, PW, PH, CC⟩ : Patch)).set p (⟨X, Y, PW, PH, CC⟩ : Patch)).set p (⟨X, Y, (1 + x9), PH, CC⟩ : Patch)).set p (⟨X, Y, (1 + x9), PH, CC⟩ : Patch))[p]? = some (⟨X, Y, (1 + x9), PH, CC⟩ : Patch) := by rw [List.getElem?_set_self (by first | omega | (simp; omega))]
                rw [show ((((ps.set p (⟨X, Y, PW, PH, CC⟩ : Patch)).set p (⟨X, Y, PW, PH, CC⟩ : Patch)).set p (⟨X, Y, (1 + x9), PH, CC⟩ : Patch))).length = ((((ps.set p (⟨X, Y, PW, PH, CC⟩ : Patch)).set p (⟨X, Y, PW, PH, CC⟩ : Patch)).set p (⟨X, Y, (1 + x9), PH, CC⟩ : Patch)).set p (⟨X, Y, (1 + x9), PH, CC⟩ : Patch)).length by simp] at s3
                have s4 := (Acc.put s3 patchC_len (p := p) (j := 4) (x := ⟨X, Y, (1 + x9), PH, CC⟩) (y := ⟨X, Y, (1 + x9), PH, CC⟩) (u := .int .i64 CC) hx4 (by omega) rfl).1
                simp only [List.set_set, List.length_set, Nat.add_zero] at s4
                rw [hu5.out] at s4
                exact s4
              have far5 : ∀ b, b ≠ gg → u5.heap[b]? = u4.heap[b]? := fun b b1 => by rw [← hu5.out, row_far _ b1, row_far _ b1, row_far _ b1, row_far _ b1, row_far _ b1]
              have q5_ := (far5 j3 (by omega)).trans q4
              have rr5_ := (far5 r2 (by omega)).trans rr4
              have rq5 := (far5 jq (by omega)).trans rq4
              have hC5_ : Cur W0 u5 g A n xs := by rw [← hu5.out]; exact ((((hC4.grow (grown_at _ gg _ _) (fun e => by have := Option.some.inj e; omega) (fun q e => by have := Option.some.inj e; have := hr2.out; omega)).grow (grown_at _ gg _ _) (fun e => by have := Option.some.inj e; omega) (fun q e => by have := Option.some.inj e; have := hr2.out; omega)).grow (grown_at _ gg _ _) (fun e => by have := Option.some.inj e; omega) (fun q e => by have := Option.some.inj e; have := hr2.out; omega)).grow (grown_at _ gg _ _) (fun e => by have := Option.some.inj e; omega) (fun q e => by have := Option.some.inj e; have := hr2.out; omega)).grow (grown_at _ gg _ _) (fun e => by have := Option.some.inj e; omega) (fun q e => by have := Option.some.inj e; have := hr2.out; omega)
              have hlz5_ : lo ≤ u5.heap.size := by rw [← hu5.out, set_size, set_size, set_size, set_size, set_size]; exact hlz4
              have ta0 : wt.cell? ⟨jq, 0, none⟩ = some (.int .i64 (X + (1 + x9))) := by rw [cell_of_row _ _ _ _ _ _ rqt]; rfl
              have ta1 : wt.cell? ⟨jq, 1, none⟩ = some (.int .i64 Y) := by rw [cell_of_row _ _ _ _ _ _ rqt]; rfl
              have ta2 : wt.cell? ⟨jq, 2, none⟩ = some (.int .i64 (PW - (1 + x9))) := by rw [cell_of_row _ _ _ _ _ _ rqt]; rfl
              have ta3 : wt.cell? ⟨jq, 3, none⟩ = some (.int .i64 PH) := by rw [cell_of_row _ _ _ _ _ _ rqt]; rfl
              have ta4 : wt.cell? ⟨jq, 4, none⟩ = some (.int .i64 CC) := by rw [cell_of_row _ _ _ _ _ _ rqt]; rfl
              have fta4 : wt.frozen? ⟨jq, 4, none⟩ = false := frozen_of_row _ _ _ _ _ rqt
              have tb0 : u4.cell? ⟨jp, 0, none⟩ = some (.int .i64 X) := by rw [cell_of_row _ _ _ _ _ _ rp4]; rfl
              have tb1 : u4.cell? ⟨jp, 1, none⟩ = some (.int .i64 Y) := by rw [cell_of_row _ _ _ _ _ _ rp4]; rfl
              have tb2 : u4.cell? ⟨jp, 2, none⟩ = some (.int .i64 (1 + x9)) := by rw [cell_of_row _ _ _ _ _ _ rp4]; rfl
              have tb3 : u4.cell? ⟨jp, 3, none⟩ = some (.int .i64 PH) := by rw [cell_of_row _ _ _ _ _ _ rp4]; rfl
              have tb4 : u4.cell? ⟨jp, 4, none⟩ = some (.int .i64 CC) := by rw [cell_of_row _ _ _ _ _ _ rp4]; rfl
              have tc0 : u4.cell? ⟨j3, 0, none⟩ = some (.int .i64 ww) := by rw [cell_of_row _ _ _ _ _ _ q4]; rfl
              have tc1 : u4.cell? ⟨j3, 1, none⟩ = some (.int .i64 hh) := by rw [cell_of_row _ _ _ _ _ _ q4]; rfl
              have tc2 : u4.cell? ⟨j3, 2, none⟩ = some (.slice (some ⟨gg, 0, none⟩) L c) := by rw [cell_of_row _ _ _ _ _ _ q4]; rfl
              have td0 : u5.cell? ⟨jq, 0, none⟩ = some (.int .i64 (X + (1 + x9))) := by rw [cell_of_row _ _ _ _ _ _ rq5]; rfl
              have td1 : u5.cell? ⟨jq, 1, none⟩ = some (.int .i64 Y) := by rw [cell_of_row _ _ _ _ _ _ rq5]; rfl
              have td2 : u5.cell? ⟨jq, 2, none⟩ = some (.int .i64 (PW - (1 + x9))) := by rw [cell_of_row _ _ _ _ _ _ rq5]; rfl
              have td3 : u5.cell? ⟨jq, 3, none⟩ = some (.int .i64 PH) := by rw [cell_of_row _ _ _ _ _ _ rq5]; rfl
              have td4 : u5.cell? ⟨jq, 4, none⟩ = some (.int .i64 x10) := by rw [cell_of_row _ _ _ _ _ _ rq5]; rfl
              have te0 : u5.cell? ⟨j3, 0, none⟩ = some (.int .i64 ww) := by rw [cell_of_row _ _ _ _ _ _ q5_]; rfl
              have te1 : u5.cell? ⟨j3, 1, none⟩ = some (.int .i64 hh) := by rw [cell_of_row _ _ _ _ _ _ q5_]; rfl
              have te2 : u5.cell? ⟨j3, 2, none⟩ = some (.slice (some ⟨gg, 0, none⟩) L c) := by rw [cell_of_row _ _ _ _ _ _ q5_]; rfl
              have hpI : (p : Int) < (L : Int) := by omega
              have HOK2 := Lib.hid (cut_x hok.out HY.out (show ps.length < 12 by have := HLEN.out; omega) (a := 1 + x9) (c2 := x10) (by omega) (by omega) (by omega) (by omega))
              have hlen5 : (ps.set p ⟨X, Y, (1 + x9), PH, CC⟩).length = L := by rw [List.length_set]; exact HLEN.out
              rw [HLEN.out] at hacc5
              have hln5 : (ps.set p ⟨X, Y, (1 + x9), PH, CC⟩).length + 1 ≤ 4294967296 := by omega
              have HQ5 := Lib.hid q5_
              have HLL := Lib.hid hlen5
              have HRR := Lib.hid rr5_
              have HC5 := Lib.hid hC5_
              clear rq4 far4 rp4 q4 rr4 hacc4 hC4 hlz4 rpt rqt qt rrt hacct hCt hlzt far5 rq5 q5_ hlen5 rr5_ hC5_ hjp7 hjqp svq
              go_wp2_with (first | rw [hu4.out] | rw [hu5.out] | (at_builtin; refine wpList_acc1 rfl _ _ 28 rfl lo 44 (.agg #[.int .i64 0, .int .i64 0, .int .i64 0, .int .i64 0, .int .i64 0]) 5 40 Try.underlying28 infoPatch rfl (by omega) _ (ps.set p ⟨X, Y, (1 + x9), PH, CC⟩) patchC ⟨X + (1 + x9), Y, PW - (1 + x9), PH, x10⟩ rfl hacc5 _ _ rfl _ rfl (by simp) rfl (by simp [patchC, Value.oneCell']) hln5 (by omega) hlz5_ ?_; intro v7 w7_ hacc7 hgrow7 hat7; have hch7 : ∀ b, b < lo → w7_.heap[b]? = u5.heap[b]? := fun b hb => hgrow7.block b (by omega) (fun e => by have := (hacc5.row e.symm).1; omega); have f7 : w7_.frozen? ⟨j3, 2, none⟩ = false := frozen_of_row _ _ _ _ _ ((hch7 j3 hjl).trans HQ5.out); have c7 := cell_blk te2 (hch7 j3 hjl); obtain ⟨G7, L7, c7', e7⟩ : ∃ (G L : Nat) (cc : Nat), v7 = .slice (some ⟨G, 0, none⟩) L cc ∧ L = (ps.set p ⟨X, Y, (1 + x9), PH, CC⟩).length + 1 := (by obtain ⟨G, cc, ev, _⟩ := hacc7.cells_at patchC_len (p := (ps.set p ⟨X, Y, (1 + x9), PH, CC⟩).length) (x := ⟨X + (1 + x9), Y, PW - (1 + x9), PH, x10⟩) List.getElem?_concat_length; exact ⟨G, _, cc, ev, List.length_append⟩); obtain ⟨e7, e8⟩ := e7; have E7 := Lib.hid e7; have E8 := Lib.hid e8; rw [e7]; clear e7 e8))
              go_roundw
              case rel =>
                have q9 := row_set (o := 2) (.slice (some ⟨G7, 0, none⟩) L7 c7') ((hch7 j3 hjl).trans HQ5.out)
                rw [E7.out] at hacc7
                have hacc9 := acc_low hacc7 hjl (o := 2) (.slice (some ⟨G7, 0, none⟩) L7 c7')
                have rr9 := (row_far (w := w7_) (b := j3) (o := 2) (.slice (some ⟨G7, 0, none⟩) L7 c7') (show r2 ≠ j3 by omega)).trans ((hch7 r2 (by omega)).trans HRR.out)
                have hcr : W0.heap.size ≤ r2 := by have := hr2.out; omega
                have hC9 := (HC5.out.grow hgrow7 (fun e => by have := (hacc5.row e).1; omega) (fun q hq => by have := (hacc5.row hq).1; omega)).grow (grown_at _ j3 2 (.slice (some ⟨G7, 0, none⟩) L7 c7')) (fun e => by have := Option.some.inj e; omega) (fun q e => by have := Option.some.inj e; omega)
                exact ⟨k + 1, L7, c7', G7, _, HKM.out, by go_num, q9, hacc9, by rw [List.length_append, E8.out]; rfl, HOK2.out, rr9, hC9, by rw [set_size]; exact Nat.le_trans hlz5_ hgrow7.size⟩
              case measure => have := HKM.out; simp [intOf]; omega
            · have hW2 := Int.not_lt.1 hW
              by_cases hH : 1 < PH
              · skip
                go_wp2_with fail
                refine (l01Below_any W0 g A n xs (PH - 1) _ hC8 (by omega)).mono ?_
                rintro e w9 ⟨x9, rfl, hx9, hC9, ho9⟩
                have hx90 := hx9.1
                have hx91 := hx9.2.1 (by omega)
                obtain ⟨hjp7, hjqp, svq⟩ := HJ.out
                have q9 := only_cell' q8 ho9 (by omega)
                have rr9 := only_cell' rr8 ho9 (by omega)
                have rp9 := only_cell' rp8 ho9 (by omega)
                have rq9 := only_cell' rq8 ho9 (by omega)
                have hacc9 := hacc8.only ho9 (by omega)
                have hlz9 : lo ≤ w9.heap.size := Nat.le_trans hlz8 ho9.size
                clear hx9 ho9 q8 rr8 rp8 rq8 hacc8 hlz8 hC8 hsz8 p0 q_0 p1 q_1 p2 q_2 p3 q_3 p4 q_4
                obtain ⟨u1, hu1⟩ : ∃ v, Hid (w9.setCell ⟨jq, 1, none⟩ (.int .i64 (Y + (1 + x9))) = v) := ⟨_, rfl⟩
                obtain ⟨u2, hu2⟩ : ∃ v, Hid (u1.setCell ⟨jq, 3, none⟩ (.int .i64 (PH - (1 + x9))) = v) := ⟨_, rfl⟩
                obtain ⟨u3, hu3⟩ : ∃ v, Hid (u2.setCell ⟨jp, 3, none⟩ (.int .i64 (1 + x9)) = v) := ⟨_, rfl⟩
                have rq1 : u1.heap[jq]? = some (.cells #[.int .i64 X, .int .i64 (Y + (1 + x9)), .int .i64 PW, .int .i64 PH, .int .i64 CC] 44 (0, 0)) := by rw [← hu1.out]; exact row_set _ rq9
                have rq2 : u2.heap[jq]? = some (.cells #[.int .i64 X, .int .i64 (Y + (1 + x9)), .int .i64 PW, .int .i64 (PH - (1 + x9)), .int .i64 CC] 44 (0, 0)) := by rw [← hu2.out]; exact row_set _ rq1
                have rp1 : u1.heap[jp]? = some (.cells #[.int .i64 X, .int .i64 Y, .int .i64 PW, .int .i64 PH, .int .i64 CC] 44 (0, 0)) := by rw [← hu1.out, row_far _ (by omega)]; exact rp9
                have rp2 : u2.heap[jp]? = some (.cells #[.int .i64 X, .int .i64 Y, .int .i64 PW, .int .i64 PH, .int .i64 CC] 44 (0, 0)) := by rw [← hu2.out, row_far _ (by omega)]; exact rp1
                have rp3 : u3.heap[jp]? = some (.cells #[.int .i64 X, .int .i64 Y, .int .i64 PW, .int .i64 (1 + x9), .int .i64 CC] 44 (0, 0)) := by rw [← hu3.out]; exact row_set _ rp2
                have rq3 : u3.heap[jq]? = some (.cells #[.int .i64 X, .int .i64 (Y + (1 + x9)), .int .i64 PW, .int .i64 (PH - (1 + x9)), .int .i64 CC] 44 (0, 0)) := by rw [← hu3.out, row_far _ (by omega)]; exact rq2
                have far3 : ∀ b, b ≠ jq → b ≠ jp → u3.heap[b]? = w9.heap[b]? := fun b b1 b2 => by rw [← hu3.out, row_far _ b2, ← hu2.out, row_far _ b1, ← hu1.out, row_far _ b1]
                have q3_ := (far3 j3 (by omega) (by omega)).trans q9
                have rr3_ := (far3 r2 (by omega) (by omega)).trans rr9
                have sz3 : u3.heap.size = w9.heap.size := by rw [← hu3.out, set_size, ← hu2.out, set_size, ← hu1.out, set_size]
                have hacc3_ : Acc u3 lo 44 5 (.slice (some ⟨gg, 0, none⟩) L c) ps patchC := by
                  have e1 : Acc u1 lo 44 5 (.slice (some ⟨gg, 0, none⟩) L c) ps patchC := by rw [← hu1.out]; exact hacc9.kept (grown_at _ jq _ _) (fun q hq e => by have h1 : gg = q := Option.some.inj hq; have h2 := Option.some.inj e; omega)
                  have e2 : Acc u2 lo 44 5 (.slice (some ⟨gg, 0, none⟩) L c) ps patchC := by rw [← hu2.out]; exact e1.kept (grown_at _ jq _ _) (fun q hq e => by have h1 : gg = q := Option.some.inj hq; have h2 := Option.some.inj e; omega)
                  rw [← hu3.out]; exact e2.kept (grown_at _ jp _ _) (fun q hq e => by have h1 : gg = q := Option.some.inj hq; have h2 := Option.some.inj e; omega)
                have hC3_ : Cur W0 u3 g A n xs := by
                  have e1 : Cur W0 u1 g A n xs := by rw [← hu1.out]; exact hC9.grow (grown_at _ jq _ _) (fun e => by have := Option.some.inj e; omega) (fun q e => by have := Option.some.inj e; have := hr2.out; omega)
                  have e2 : Cur W0 u2 g A n xs := by rw [← hu2.out]; exact e1.grow (grown_at _ jq _ _) (fun e => by have := Option.some.inj e; omega) (fun q e => by have := Option.some.inj e; have := hr2.out; omega)
                  rw [← hu3.out]; exact e2.grow (grown_at _ jp _ _) (fun e => by have := Option.some.inj e; omega) (fun q e => by have := Option.some.inj e; have := hr2.out; omega)
                have pa0 : w9.cell? ⟨jp, 0, none⟩ = some (.int .i64 X) := by rw [cell_of_row _ _ _ _ _ _ rp9]; rfl
                have pa1 : w9.cell? ⟨jp, 1, none⟩ = some (.int .i64 Y) := by rw [cell_of_row _ _ _ _ _ _ rp9]; rfl
                have pa2 : w9.cell? ⟨jp, 2, none⟩ = some (.int .i64 PW) := by rw [cell_of_row _ _ _ _ _ _ rp9]; rfl
                have pa3 : w9.cell? ⟨jp, 3, none⟩ = some (.int .i64 PH) := by rw [cell_of_row _ _ _ _ _ _ rp9]; rfl
                have pa4 : w9.cell? ⟨jp, 4, none⟩ = some (.int .i64 CC) := by rw [cell_of_row _ _ _ _ _ _ rp9]; rfl
                have qa0 : w9.cell? ⟨jq, 0, none⟩ = some (.int .i64 X) := by rw [cell_of_row _ _ _ _ _ _ rq9]; rfl
                have qa1 : w9.cell? ⟨jq, 1, none⟩ = some (.int .i64 Y) := by rw [cell_of_row _ _ _ _ _ _ rq9]; rfl
                have qa2 : w9.cell? ⟨jq, 2, none⟩ = some (.int .i64 PW) := by rw [cell_of_row _ _ _ _ _ _ rq9]; rfl
                have qa3 : w9.cell? ⟨jq, 3, none⟩ = some (.int .i64 PH) := by rw [cell_of_row _ _ _ _ _ _ rq9]; rfl
                have qa4 : w9.cell? ⟨jq, 4, none⟩ = some (.int .i64 CC) := by rw [cell_of_row _ _ _ _ _ _ rq9]; rfl
                have fqa1 : w9.frozen? ⟨jq, 1, none⟩ = false := frozen_of_row _ _ _ _ _ rq9
                have pb0 : u1.cell? ⟨jp, 0, none⟩ = some (.int .i64 X) := by rw [cell_of_row _ _ _ _ _ _ rp1]; rfl
                have pb1 : u1.cell? ⟨jp, 1, none⟩ = some (.int .i64 Y) := by rw [cell_of_row _ _ _ _ _ _ rp1]; rfl
                have pb2 : u1.cell? ⟨jp, 2, none⟩ = some (.int .i64 PW) := by rw [cell_of_row _ _ _ _ _ _ rp1]; rfl
                have pb3 : u1.cell? ⟨jp, 3, none⟩ = some (.int .i64 PH) := by rw [cell_of_row _ _ _ _ _ _ rp1]; rfl
                have pb4 : u1.cell? ⟨jp, 4, none⟩ = some (.int .i64 CC) := by rw [cell_of_row _ _ _ _ _ _ rp1]; rfl
                have qb0 : u1.cell? ⟨jq, 0, none⟩ = some (.int .i64 X) := by rw [cell_of_row _ _ _ _ _ _ rq1]; rfl
                have qb1 : u1.cell? ⟨jq, 1, none⟩ = some (.int .i64 (Y + (1 + x9))) := by rw [cell_of_row _ _ _ _ _ _ rq1]; rfl
                have qb2 : u1.cell? ⟨jq, 2, none⟩ = some (.int .i64 PW) := by rw [cell_of_row _ _ _ _ _ _ rq1]; rfl
                have qb3 : u1.cell? ⟨jq, 3, none⟩ = some (.int .i64 PH) := by rw [cell_of_row _ _ _ _ _ _ rq1]; rfl
                have qb4 : u1.cell? ⟨jq, 4, none⟩ = some (.int .i64 CC) := by rw [cell_of_row _ _ _ _ _ _ rq1]; rfl
                have fqb3 : u1.frozen? ⟨jq, 3, none⟩ = false := frozen_of_row _ _ _ _ _ rq1
                have pc0 : u2.cell? ⟨jp, 0, none⟩ = some (.int .i64 X) := by rw [cell_of_row _ _ _ _ _ _ rp2]; rfl
                have pc1 : u2.cell? ⟨jp, 1, none⟩ = some (.int .i64 Y) := by rw [cell_of_row _ _ _ _ _ _ rp2]; rfl
                have pc2 : u2.cell? ⟨jp, 2, none⟩ = some (.int .i64 PW) := by rw [cell_of_row _ _ _ _ _ _ rp2]; rfl
                have pc3 : u2.cell? ⟨jp, 3, none⟩ = some (.int .i64 PH) := by rw [cell_of_row _ _ _ _ _ _ rp2]; rfl
                have pc4 : u2.cell? ⟨jp, 4, none⟩ = some (.int .i64 CC) := by rw [cell_of_row _ _ _ _ _ _ rp2]; rfl
                have fpc3 : u2.frozen? ⟨jp, 3, none⟩ = false := frozen_of_row _ _ _ _ _ rp2
                have hs1 : IntKind.i64.wrap (Y + (1 + x9)) = Y + (1 + x9) := by simp (disch := omega) only [IntWalk.i64_in]
                have hs2 : IntKind.i64.wrap (PH - (1 + x9)) = PH - (1 + x9) := by simp (disch := omega) only [IntWalk.i64_in]
                have Hrp3 := Lib.hid rp3
                have Hrq3 := Lib.hid rq3
                have Hq3_ := Lib.hid q3_
                have Hrr3_ := Lib.hid rr3_
                have Hhacc3_ := Lib.hid hacc3_
                have Hsz3 := Lib.hid sz3
                have HLZ := Lib.hid hlz9
                clear rp3 rq3 q3_ rr3_ hacc3_ sz3 rq1 rq2 rp1 rp2 rp9 rq9 q9 rr9 hacc9 hlz9 hC9 far3 hjp7 hjqp svq
                go_wp2_with (first | rw [hu1.out] | rw [hu2.out] | rw [hu3.out])
                refine (l01Below_any W0 g A n xs 5 _ hC3_ (by omega)).mono ?_
                rintro e wt ⟨x10, rfl, hx10_, hCt, hot⟩
                have hc0 := hx10_.1
                have hc1 := hx10_.2.1 (by omega)
                obtain ⟨hjp7, hjqp, svq⟩ := HJ.out
                have qt := only_cell' Hq3_.out hot (by omega)
                have rrt := only_cell' Hrr3_.out hot (by omega)
                have rpt := only_cell' Hrp3.out hot (by omega)
                have rqt := only_cell' Hrq3.out hot (by omega)
                have hacct := Hhacc3_.out.only hot (by omega)
                have hlzt : lo ≤ wt.heap.size := by have h1 := HLZ.out; have h2 := hot.size; have h3 := Hsz3.out; omega
                clear hC3_ hx10_ hot pa0 qa0 pb0 qb0 pc0 pa1 qa1 pb1 qb1 pc1 pa2 qa2 pb2 qb2 pc2 pa3 qa3 pb3 qb3 pc3 pa4 qa4 pb4 qb4 pc4 fqa1 fqb3 fpc3
                obtain ⟨u4, hu4⟩ : ∃ v, Hid (wt.setCell ⟨jq, 4, none⟩ (.int .i64 x10) = v) := ⟨_, rfl⟩
                have rq4 : u4.heap[jq]? = some (.cells #[.int .i64 X, .int .i64 (Y + (1 + x9)), .int .i64 PW, .int .i64 (PH - (1 + x9)), .int .i64 x10] 44 (0, 0)) := by rw [← hu4.out]; exact row_set _ rqt
                have far4 : ∀ b, b ≠ jq → u4.heap[b]? = wt.heap[b]? := fun b b1 => by rw [← hu4.out, row_far _ b1]
                have rp4 := (far4 jp (by omega)).trans rpt
                have q4 := (far4 j3 (by omega)).trans qt
                have rr4 := (far4 r2 (by omega)).trans rrt
                have hacc4 : Acc u4 lo 44 5 (.slice (some ⟨gg, 0, none⟩) L c) ps patchC := by rw [← hu4.out]; exact hacct.kept (grown_at _ jq _ _) (fun q hq e => by have h1 : gg = q := Option.some.inj hq; have h2 := Option.some.inj e; omega)
                have hC4 : Cur W0 u4 g A n xs := by rw [← hu4.out]; exact hCt.grow (grown_at _ jq _ _) (fun e => by have := Option.some.inj e; omega) (fun q e => by have := Option.some.inj e; have := hr2.out; omega)
                have hlz4 : lo ≤ u4.heap.size := by rw [← hu4.out, set_size]; exact hlzt
                rw [← HLEN.out] at hacc4
                obtain ⟨gb, cgb, ev, _, _, hcB, hfB⟩ := hacc4.cells_at patchC_len HY.out
                injection ev with ev1 ev3 ev4
                injection ev1 with ev1
                injection ev1 with ev1 _ _
                subst ev1
                clear ev3 ev4
                have yb0 := hcB 0 _ rfl
                have fb0 := hfB (p * 5 + 0)
                have yb1 := hcB 1 _ rfl
                have fb1 := hfB (p * 5 + 1)
                have yb2 := hcB 2 _ rfl
                have fb2 := hfB (p * 5 + 2)
                have yb3 := hcB 3 _ rfl
                have fb3 := hfB (p * 5 + 3)
                have yb4 := hcB 4 _ rfl
                have fb4 := hfB (p * 5 + 4)
                rw [Nat.add_zero] at yb0 fb0
                clear hcB hfB
                obtain ⟨u5, hu5⟩ : ∃ v, Hid ((((((u4.setCell ⟨gg, p * 5, none⟩ (.int .i64 X)).setCell ⟨gg, p * 5 + 1, none⟩ (.int .i64 Y)).setCell ⟨gg, p * 5 + 2, none⟩ (.int .i64 PW)).setCell ⟨gg, p * 5 + 3, none⟩ (.int .i64 (1 + x9))).setCell ⟨gg, p * 5 + 4, none⟩ (.int .i64 CC)) = v) := ⟨_, rfl⟩
                have hacc5 : Acc u5 lo 44 5 (.slice (some ⟨gg, 0, none⟩) ps.length c) (ps.set p ⟨X, Y, PW, (1 + x9), CC⟩) patchC := by
                  have hx0 : ps[p]? = some (⟨X, Y, PW, PH, CC⟩ : Patch) := HY.out
                  have hpl : p < ps.length := (List.getElem?_eq_some_iff.1 hx0).1
                  have s0 := (Acc.put hacc4 patchC_len (p := p) (j := 0) (x := ⟨X, Y, PW, PH, CC⟩) (y := ⟨X, Y, PW, PH, CC⟩) (u := .int .i64 X) hx0 (by omega) rfl).1
                  have hx1 : (ps.set p (⟨X, Y, PW, PH, CC⟩ : Patch))[p]? = some (⟨X, Y, PW, PH, CC⟩ : Patch) := by rw [List.getElem?_set_self (by first | omega | (simp; omega))]
                  rw [show (ps).length = (ps.set p (⟨X, Y, PW, PH, CC⟩ : Patch)).length by simp] at s0
                  have s1 := (Acc.put s0 patchC_len (p := p) (j := 1) (x := ⟨X, Y, PW, PH, CC⟩) (y := ⟨X, Y, PW, PH, CC⟩) (u := .int .i64 Y) hx1 (by omega) rfl).1
                  have hx2 : ((ps.set p (⟨X, Y, PW, PH, CC⟩ : Patch)).set p (⟨X, Y, PW, PH, CC⟩ : Patch))[p]? = some (⟨X, Y, PW, PH, CC⟩ : Patch) := by rw [List.getElem?_set_self (by first | omega | (simp; omega))]
                  rw [show ((ps.set p (⟨X, Y, PW, PH, CC⟩ : Patch))).length = ((ps.set p (⟨X, Y, PW, PH, CC⟩ : Patch)).set p (⟨X, Y, PW, PH, CC⟩ : Patch)).length by simp] at s1
                  have s2 := (Acc.put s1 patchC_len (p := p) (j := 2) (x := ⟨X, Y, PW, PH, CC⟩) (y := ⟨X, Y, PW, PH, CC⟩) (u := .int .i64 PW) hx2 (by omega) rfl).1
                  have hx3 : (((ps.set p (⟨X, Y, PW, PH, CC⟩ : Patch)).set p (⟨X, Y, PW, PH, CC⟩ : Patch)).set p (⟨X, Y, PW, PH, CC⟩ : Patch))[p]? = some (⟨X, Y, PW, PH, CC⟩ : Patch) := by rw [List.getElem?_set_self (by first | omega | (simp; omega))]
                  rw [show (((ps.set p (⟨X, Y, PW, PH, CC⟩ : Patch)).set p (⟨X, Y, PW, PH, CC⟩ : Patch))).length = (((ps.set p (⟨X, Y, PW, PH, CC⟩ : Patch)).set p (⟨X, Y, PW, PH, CC⟩ : Patch)).set p (⟨X, Y, PW, PH, CC⟩ : Patch)).length by simp] at s2
                  have s3 := (Acc.put s2 patchC_len (p := p) (j := 3) (x := ⟨X, Y, PW, PH, CC⟩) (y := ⟨X, Y, PW, (1 + x9), CC⟩) (u := .int .i64 (1 + x9)) hx3 (by omega) rfl).1
                  have hx4 : ((((ps.set p (⟨X, Y, PW, PH, CC⟩ : Patch)).set p (⟨X, Y, PW, PH, CC⟩ : Patch)).set p (⟨X, Y, PW, PH, CC⟩ : Patch)).set p (⟨X, Y, PW, (1 + x9), CC⟩ : Patch))[p]? = some (⟨X, Y, PW, (1 + x9), CC⟩ : Patch) := by rw [List.getElem?_set_self (by first | omega | (simp; omega))]
                  rw [show ((((ps.set p (⟨X, Y, PW, PH, CC⟩ : Patch)).set p (⟨X, Y, PW, PH, CC⟩ : Patch)).set p (⟨X, Y, PW, PH, CC⟩ : Patch))).length = ((((ps.set p (⟨X, Y, PW, PH, CC⟩ : Patch)).set p (⟨X, Y, PW, PH, CC⟩ : Patch)).set p (⟨X, Y, PW, PH, CC⟩ : Patch)).set p (⟨X, Y, PW, (1 + x9), CC⟩ : Patch)).length by simp] at s3
                  have s4 := (Acc.put s3 patchC_len (p := p) (j := 4) (x := ⟨X, Y, PW, (1 + x9), CC⟩) (y := ⟨X, Y, PW, (1 + x9), CC⟩) (u := .int .i64 CC) hx4 (by omega) rfl).1
                  simp only [List.set_set, List.length_set, Nat.add_zero] at s4
                  rw [hu5.out] at s4
                  exact s4
                have far5 : ∀ b, b ≠ gg → u5.heap[b]? = u4.heap[b]? := fun b b1 => by rw [← hu5.out, row_far _ b1, row_far _ b1, row_far _ b1, row_far _ b1, row_far _ b1]
                have q5_ := (far5 j3 (by omega)).trans q4
                have rr5_ := (far5 r2 (by omega)).trans rr4
                have rq5 := (far5 jq (by omega)).trans rq4
                have hC5_ : Cur W0 u5 g A n xs := by rw [← hu5.out]; exact ((((hC4.grow (grown_at _ gg _ _) (fun e => by have := Option.some.inj e; omega) (fun q e => by have := Option.some.inj e; have := hr2.out; omega)).grow (grown_at _ gg _ _) (fun e => by have := Option.some.inj e; omega) (fun q e => by have := Option.some.inj e; have := hr2.out; omega)).grow (grown_at _ gg _ _) (fun e => by have := Option.some.inj e; omega) (fun q e => by have := Option.some.inj e; have := hr2.out; omega)).grow (grown_at _ gg _ _) (fun e => by have := Option.some.inj e; omega) (fun q e => by have := Option.some.inj e; have := hr2.out; omega)).grow (grown_at _ gg _ _) (fun e => by have := Option.some.inj e; omega) (fun q e => by have := Option.some.inj e; have := hr2.out; omega)
                have hlz5_ : lo ≤ u5.heap.size := by rw [← hu5.out, set_size, set_size, set_size, set_size, set_size]; exact hlz4
                have ta0 : wt.cell? ⟨jq, 0, none⟩ = some (.int .i64 X) := by rw [cell_of_row _ _ _ _ _ _ rqt]; rfl
                have ta1 : wt.cell? ⟨jq, 1, none⟩ = some (.int .i64 (Y + (1 + x9))) := by rw [cell_of_row _ _ _ _ _ _ rqt]; rfl
                have ta2 : wt.cell? ⟨jq, 2, none⟩ = some (.int .i64 PW) := by rw [cell_of_row _ _ _ _ _ _ rqt]; rfl
                have ta3 : wt.cell? ⟨jq, 3, none⟩ = some (.int .i64 (PH - (1 + x9))) := by rw [cell_of_row _ _ _ _ _ _ rqt]; rfl
                have ta4 : wt.cell? ⟨jq, 4, none⟩ = some (.int .i64 CC) := by rw [cell_of_row _ _ _ _ _ _ rqt]; rfl
                have fta4 : wt.frozen? ⟨jq, 4, none⟩ = false := frozen_of_row _ _ _ _ _ rqt
                have tb0 : u4.cell? ⟨jp, 0, none⟩ = some (.int .i64 X) := by rw [cell_of_row _ _ _ _ _ _ rp4]; rfl
                have tb1 : u4.cell? ⟨jp, 1, none⟩ = some (.int .i64 Y) := by rw [cell_of_row _ _ _ _ _ _ rp4]; rfl
                have tb2 : u4.cell? ⟨jp, 2, none⟩ = some (.int .i64 PW) := by rw [cell_of_row _ _ _ _ _ _ rp4]; rfl
                have tb3 : u4.cell? ⟨jp, 3, none⟩ = some (.int .i64 (1 + x9)) := by rw [cell_of_row _ _ _ _ _ _ rp4]; rfl
                have tb4 : u4.cell? ⟨jp, 4, none⟩ = some (.int .i64 CC) := by rw [cell_of_row _ _ _ _ _ _ rp4]; rfl
                have tc0 : u4.cell? ⟨j3, 0, none⟩ = some (.int .i64 ww) := by rw [cell_of_row _ _ _ _ _ _ q4]; rfl
                have tc1 : u4.cell? ⟨j3, 1, none⟩ = some (.int .i64 hh) := by rw [cell_of_row _ _ _ _ _ _ q4]; rfl
                have tc2 : u4.cell? ⟨j3, 2, none⟩ = some (.slice (some ⟨gg, 0, none⟩) L c) := by rw [cell_of_row _ _ _ _ _ _ q4]; rfl
                have td0 : u5.cell? ⟨jq, 0, none⟩ = some (.int .i64 X) := by rw [cell_of_row _ _ _ _ _ _ rq5]; rfl
                have td1 : u5.cell? ⟨jq, 1, none⟩ = some (.int .i64 (Y + (1 + x9))) := by rw [cell_of_row _ _ _ _ _ _ rq5]; rfl
                have td2 : u5.cell? ⟨jq, 2, none⟩ = some (.int .i64 PW) := by rw [cell_of_row _ _ _ _ _ _ rq5]; rfl
                have td3 : u5.cell? ⟨jq, 3, none⟩ = some (.int .i64 (PH - (1 + x9))) := by rw [cell_of_row _ _ _ _ _ _ rq5]; rfl
                have td4 : u5.cell? ⟨jq, 4, none⟩ = some (.int .i64 x10) := by rw [cell_of_row _ _ _ _ _ _ rq5]; rfl
                have te0 : u5.cell? ⟨j3, 0, none⟩ = some (.int .i64 ww) := by rw [cell_of_row _ _ _ _ _ _ q5_]; rfl
                have te1 : u5.cell? ⟨j3, 1, none⟩ = some (.int .i64 hh) := by rw [cell_of_row _ _ _ _ _ _ q5_]; rfl
                have te2 : u5.cell? ⟨j3, 2, none⟩ = some (.slice (some ⟨gg, 0, none⟩) L c) := by rw [cell_of_row _ _ _ _ _ _ q5_]; rfl
                have hpI : (p : Int) < (L : Int) := by omega
                have HOK2 := Lib.hid (cut_y hok.out HY.out (show ps.length < 12 by have := HLEN.out; omega) (a := 1 + x9) (c2 := x10) (by omega) (by omega) (by omega) (by omega))
                have hlen5 : (ps.set p ⟨X, Y, PW, (1 + x9), CC⟩).length = L := by rw [List.length_set]; exact HLEN.out
                rw [HLEN.out] at hacc5
                have hln5 : (ps.set p ⟨X, Y, PW, (1 + x9), CC⟩).length + 1 ≤ 4294967296 := by omega
                have HQ5 := Lib.hid q5_
                have HLL := Lib.hid hlen5
                have HRR := Lib.hid rr5_
                have HC5 := Lib.hid hC5_
                clear rq4 far4 rp4 q4 rr4 hacc4 hC4 hlz4 rpt rqt qt rrt hacct hCt hlzt far5 rq5 q5_ hlen5 rr5_ hC5_ hjp7 hjqp svq
                go_wp2_with (first | rw [hu4.out] | rw [hu5.out] | (at_builtin; refine wpList_acc1 rfl _ _ 28 rfl lo 44 (.agg #[.int .i64 0, .int .i64 0, .int .i64 0, .int .i64 0, .int .i64 0]) 5 40 Try.underlying28 infoPatch rfl (by omega) _ (ps.set p ⟨X, Y, PW, (1 + x9), CC⟩) patchC ⟨X, Y + (1 + x9), PW, PH - (1 + x9), x10⟩ rfl hacc5 _ _ rfl _ rfl (by simp) rfl (by simp [patchC, Value.oneCell']) hln5 (by omega) hlz5_ ?_; intro v7 w7_ hacc7 hgrow7 hat7; have hch7 : ∀ b, b < lo → w7_.heap[b]? = u5.heap[b]? := fun b hb => hgrow7.block b (by omega) (fun e => by have := (hacc5.row e.symm).1; omega); have f7 : w7_.frozen? ⟨j3, 2, none⟩ = false := frozen_of_row _ _ _ _ _ ((hch7 j3 hjl).trans HQ5.out); have c7 := cell_blk te2 (hch7 j3 hjl); obtain ⟨G7, L7, c7', e7⟩ : ∃ (G L : Nat) (cc : Nat), v7 = .slice (some ⟨G, 0, none⟩) L cc ∧ L = (ps.set p ⟨X, Y, PW, (1 + x9), CC⟩).length + 1 := (by obtain ⟨G, cc, ev, _⟩ := hacc7.cells_at patchC_len (p := (ps.set p ⟨X, Y, PW, (1 + x9), CC⟩).length) (x := ⟨X, Y + (1 + x9), PW, PH - (1 + x9), x10⟩) List.getElem?_concat_length; exact ⟨G, _, cc, ev, List.length_append⟩); obtain ⟨e7, e8⟩ := e7; have E7 := Lib.hid e7; have E8 := Lib.hid e8; rw [e7]; clear e7 e8))
                go_roundw
                case rel =>
                  have q9 := row_set (o := 2) (.slice (some ⟨G7, 0, none⟩) L7 c7') ((hch7 j3 hjl).trans HQ5.out)
                  rw [E7.out] at hacc7
                  have hacc9 := acc_low hacc7 hjl (o := 2) (.slice (some ⟨G7, 0, none⟩) L7 c7')
                  have rr9 := (row_far (w := w7_) (b := j3) (o := 2) (.slice (some ⟨G7, 0, none⟩) L7 c7') (show r2 ≠ j3 by omega)).trans ((hch7 r2 (by omega)).trans HRR.out)
                  have hcr : W0.heap.size ≤ r2 := by have := hr2.out; omega
                  have hC9 := (HC5.out.grow hgrow7 (fun e => by have := (hacc5.row e).1; omega) (fun q hq => by have := (hacc5.row hq).1; omega)).grow (grown_at _ j3 2 (.slice (some ⟨G7, 0, none⟩) L7 c7')) (fun e => by have := Option.some.inj e; omega) (fun q e => by have := Option.some.inj e; omega)
                  exact ⟨k + 1, L7, c7', G7, _, HKM.out, by go_num, q9, hacc9, by rw [List.length_append, E8.out]; rfl, HOK2.out, rr9, hC9, by rw [set_size]; exact Nat.le_trans hlz5_ hgrow7.size⟩
                case measure => have := HKM.out; simp [intOf]; omega
              · have hH2 := Int.not_lt.1 hH
                go_wp2_with fail
                go_roundw
                case rel => exact ⟨k + 1, L, c, gg, ps, HKM.out, by go_num, q8, hacc8, HLEN.out, hok, rr8, hC8, hlz8⟩
                case measure => have := HKM.out; simp [intOf]; omega
        · have hLI : ¬ (L : Int) < 12 := by omega
          have z0 : wr.cell? ⟨r2, 0, none⟩ = some (.int .i64 0) := by rw [cell_of_row _ _ _ _ _ _ rrr]; rfl
          have fz0 : wr.frozen? ⟨r2, 0, none⟩ = false := frozen_of_row _ _ _ _ _ rrr
          have z1 : wr.cell? ⟨r2, 1, none⟩ = some (.int .i64 0) := by rw [cell_of_row _ _ _ _ _ _ rrr]; rfl
          have fz1 : wr.frozen? ⟨r2, 1, none⟩ = false := frozen_of_row _ _ _ _ _ rrr
          have z2 : wr.cell? ⟨r2, 2, none⟩ = some (.slice none 0 0) := by rw [cell_of_row _ _ _ _ _ _ rrr]; rfl
          have fz2 : wr.frozen? ⟨r2, 2, none⟩ = false := frozen_of_row _ _ _ _ _ rrr
          have hlen := HLEN.out
          have hacc9 : Acc wr lo 44 5 (.slice (some ⟨gg, 0, none⟩) ps.length c) ps patchC := by rw [hlen]; exact hacc
          have HA9 := Lib.hid hacc9
          have HC9 := Lib.hid hCr
          have hr2l : r2 < lo := by omega
          have HHH := Lib.hid (And.intro hgr (And.intro hr2l (show W0.heap.size ≤ r2 by have := hr2.out; omega)))
          clear hacc9 hacc hlen hCr qr rrr
          go_wp2
          obtain ⟨h1, h2, h3⟩ := HHH.out
          have hcn : (some r2 : Option Nat) ≠ some g := fun e => by have := Option.some.inj e; omega
          have hcg : ∀ q, some r2 = some q → W0.heap.size ≤ q := fun q e => by have := Option.some.inj e; omega
          refine bodyPost_ret (v := .agg #[.int .i64 ww, .int .i64 hh, .slice (some ⟨gg, 0, none⟩) L c]) (by simp [results, Try.results80, go_sem, World.cell?_setCell_same', World.cell?_setCell_other, z0, z1, z2]) rfl ⟨ww, hh, ps, _, _, _, rfl, hok.out, ?_, ((HC9.out.grow (grown_at _ r2 0 _) hcn hcg).grow (grown_at _ r2 1 _) hcn hcg).grow (grown_at _ r2 2 _) hcn hcg⟩
          have := acc_rd (acc_low (acc_low (acc_low HA9.out h2 (o := 0) (.int .i64 ww)) h2 (o := 1) (.int .i64 hh)) h2 (o := 2) (.slice (some ⟨gg, 0, none⟩) L c)) patchC_len
          rw [HLEN.out] at this
          exact this
      · have hkm : ¬ (k : Int) < (m : Int) := by omega
        have z0 : wr.cell? ⟨r2, 0, none⟩ = some (.int .i64 0) := by rw [cell_of_row _ _ _ _ _ _ rrr]; rfl
        have fz0 : wr.frozen? ⟨r2, 0, none⟩ = false := frozen_of_row _ _ _ _ _ rrr
        have z1 : wr.cell? ⟨r2, 1, none⟩ = some (.int .i64 0) := by rw [cell_of_row _ _ _ _ _ _ rrr]; rfl
        have fz1 : wr.frozen? ⟨r2, 1, none⟩ = false := frozen_of_row _ _ _ _ _ rrr
        have z2 : wr.cell? ⟨r2, 2, none⟩ = some (.slice none 0 0) := by rw [cell_of_row _ _ _ _ _ _ rrr]; rfl
        have fz2 : wr.frozen? ⟨r2, 2, none⟩ = false := frozen_of_row _ _ _ _ _ rrr
        have hlen := HLEN.out
        have hacc9 : Acc wr lo 44 5 (.slice (some ⟨gg, 0, none⟩) ps.length c) ps patchC := by rw [hlen]; exact hacc
        have HA9 := Lib.hid hacc9
        have HC9 := Lib.hid hCr
        have hr2l : r2 < lo := by omega
        have HHH := Lib.hid (And.intro hgr (And.intro hr2l (show W0.heap.size ≤ r2 by have := hr2.out; omega)))
        clear hacc9 hacc hlen hCr qr rrr
        go_wp2
        obtain ⟨h1, h2, h3⟩ := HHH.out
        have hcn : (some r2 : Option Nat) ≠ some g := fun e => by have := Option.some.inj e; omega
        have hcg : ∀ q, some r2 = some q → W0.heap.size ≤ q := fun q e => by have := Option.some.inj e; omega
        refine bodyPost_ret (v := .agg #[.int .i64 ww, .int .i64 hh, .slice (some ⟨gg, 0, none⟩) L c]) (by simp [results, Try.results80, go_sem, World.cell?_setCell_same', World.cell?_setCell_other, z0, z1, z2]) rfl ⟨ww, hh, ps, _, _, _, rfl, hok.out, ?_, ((HC9.out.grow (grown_at _ r2 0 _) hcn hcg).grow (grown_at _ r2 1 _) hcn hcg).grow (grown_at _ r2 2 _) hcn hcg⟩
        have := acc_rd (acc_low (acc_low (acc_low HA9.out h2 (o := 0) (.int .i64 ww)) h2 (o := 1) (.int .i64 hh)) h2 (o := 2) (.slice (some ⟨gg, 0, none⟩) L c)) patchC_len
        rw [HLEN.out] at this
        exact this
  · go_wp2_with fail
    refine (sampleS_any _).mono ?_
    rintro e w4 ⟨g5, rfl, hacc4, hb4⟩
    have q4 := (hb4.block j3 (heap_lt q3)).trans q3
    have rr4 := (hb4.block r2 (heap_lt rr3)).trans rr3
    have hC4 := hC3.below hb4
    have hlz4 : lo ≤ w4.heap.size := Nat.le_trans hlz3 hb4.size
    have hacc4' := hacc4.mono hlz3
    obtain ⟨w5, hw5⟩ : ∃ v, Hid (((w4.setCell ⟨j3, 0, none⟩ (.int .i64 3)).setCell ⟨j3, 1, none⟩ (.int .i64 3)).setCell ⟨j3, 2, none⟩ (.slice (some ⟨g5, 0, none⟩) 5 5) = v) := ⟨_, rfl⟩
    have q5 := row_set (o := 2) (.slice (some ⟨g5, 0, none⟩) 5 5) (row_set (o := 1) (.int .i64 3) (row_set (o := 0) (.int .i64 3) q4))
    rw [hw5.out] at q5
    have hacc5 := acc_low (acc_low (acc_low hacc4' hjl (o := 0) (.int .i64 3)) hjl (o := 1) (.int .i64 3)) hjl (o := 2) (.slice (some ⟨g5, 0, none⟩) 5 5)
    rw [hw5.out] at hacc5
    have rr5 : w5.heap[r2]? = some (.cells #[.int .i64 0, .int .i64 0, .slice none 0 0] 30 (0, 0)) := by rw [← hw5.out, row_far _ (by omega), row_far _ (by omega), row_far _ (by omega)]; exact rr4
    have hcg : ∀ q, some j3 = some q → W0.heap.size ≤ q := fun q e => by have := Option.some.inj e; have := hr2.out; omega
    have hcn : (some j3 : Option Nat) ≠ some g := fun e => by have := Option.some.inj e; omega
    have hC5 := ((hC4.grow (grown_at _ j3 0 (.int .i64 3)) hcn hcg).grow (grown_at _ j3 1 (.int .i64 3)) hcn hcg).grow (grown_at _ j3 2 (.slice (some ⟨g5, 0, none⟩) 5 5)) hcn hcg
    rw [hw5.out] at hC5
    have hlz5 : lo ≤ w5.heap.size := by rw [← hw5.out, set_size, set_size, set_size]; exact hlz4
    have s0 : w4.cell? ⟨j3, 0, none⟩ = some (.int .i64 ww) := by rw [cell_of_row _ _ _ _ _ _ q4]; rfl
    have f0 : w4.frozen? ⟨j3, 0, none⟩ = false := frozen_of_row _ _ _ _ _ q4
    have s1 : w4.cell? ⟨j3, 1, none⟩ = some (.int .i64 hh) := by rw [cell_of_row _ _ _ _ _ _ q4]; rfl
    have f1 : w4.frozen? ⟨j3, 1, none⟩ = false := frozen_of_row _ _ _ _ _ q4
    have s2 : w4.cell? ⟨j3, 2, none⟩ = some (.slice (some ⟨lo, 0, none⟩) 1 1) := by rw [cell_of_row _ _ _ _ _ _ q4]; rfl
    have f2 : w4.frozen? ⟨j3, 2, none⟩ = false := frozen_of_row _ _ _ _ _ q4
    clear hacc3 q3 rr3 hC3 hlz3 hacc4 hb4 q4 rr4 hC4 hlz4 hacc4' hcg hcn
    go_wp2_with (rw [hw5.out])
    clear s0 s1 s2 f0 f1 f2
    have rrz := heap_lt rr5
    go_wp2_with fail
    refine (l01Below_any W0 g A n xs 8 _ hC5 (by omega)).mono ?_
    rintro e w6 ⟨x6, rfl, hx6, hC6, ho6⟩
    have hx60 := hx6.1
    have hx61 := hx6.2.1 (by omega)
    obtain ⟨m, rfl⟩ := Int.eq_ofNat_of_zero_le hx60
    have hm7 : m ≤ 7 := by omega
    clear hx61
    have hacc6 := hacc5.only ho6 (by omega)
    have q6 := only_cell' q5 ho6 (by omega)
    have rr6 := only_cell' rr5 ho6 (by omega)
    have hlz6 : lo ≤ w6.heap.size := Nat.le_trans hlz5 ho6.size
    clear hx6 hx60 ho6 rrz
    have l0 : w6.cell? ⟨j3, 2, none⟩ = some (.slice (some ⟨g5, 0, none⟩) 5 5) := by rw [cell_of_row _ _ _ _ _ _ q6]; rfl
    go_wp2_with fail
    clear l0
    go_loopw [5] (fun i wr => ∃ (k L c gg : Nat) (ps : List Patch), k ≤ m ∧ i = .int .i64 (k : Int) ∧ wr.heap[j3]? = some (.cells #[.int .i64 3, .int .i64 3, .slice (some ⟨gg, 0, none⟩) L c] 30 (0, 0)) ∧ Acc wr lo 44 5 (.slice (some ⟨gg, 0, none⟩) L c) ps patchC ∧ ps.length = L ∧ Hid (layoutOk 3 3 ps = true) ∧ wr.heap[r2]? = some (.cells #[.int .i64 0, .int .i64 0, .slice none 0 0] 30 (0, 0)) ∧ Cur W0 wr g A n xs ∧ lo ≤ wr.heap.size) (fun i _ => m - (intOf i).toNat)
    case atStart => exact ⟨0, 5, 5, g5, sampleP, Nat.zero_le _, rfl, q6, hacc6, rfl, sample_ok, rr6, hC6, hlz6⟩
    case round =>
      clear q6 hacc6 rr6 hC6 hlz6
      obtain ⟨k, L, c, gg, ps, hk, rfl, qr, hacc, hlen, hok, rrr, hCr, hlz⟩ := hrel
      have hlp := layout_parts hok.out
      have hL12 := hlp.2.2.1
      rw [hlen] at hL12
      have hlw := hlp.1.2
      have hlh := hlp.2.1.2
      have hpin := hlp.2.2.2.1
      have HPIN := Lib.hid hpin
      have HLEN := Lib.hid hlen
      clear hlp hpin hlen
      have l0 : wr.cell? ⟨j3, 0, none⟩ = some (.int .i64 3) := by rw [cell_of_row _ _ _ _ _ _ qr]; rfl
      have l1 : wr.cell? ⟨j3, 1, none⟩ = some (.int .i64 3) := by rw [cell_of_row _ _ _ _ _ _ qr]; rfl
      have l2 : wr.cell? ⟨j3, 2, none⟩ = some (.slice (some ⟨gg, 0, none⟩) L c) := by rw [cell_of_row _ _ _ _ _ _ qr]; rfl
      by_cases hlt : k < m
      · have hkm : (k : Int) < (m : Int) := by omega
        have HKM : Hid (k + 1 ≤ m) := by show k + 1 ≤ m; omega
        by_cases hl12 : L < 12
        · have hLI : (L : Int) < 12 := by omega
          go_wp2_with fail
          refine (l01Below_any W0 g A n xs (L : Int) _ hCr (by omega)).mono ?_
          rintro e w7 ⟨x7, rfl, hx7, hC7, ho7⟩
          have hx70 := hx7.1
          have hx71 := hx7.2.1 (by omega)
          obtain ⟨p, rfl⟩ := Int.eq_ofNat_of_zero_le hx70
          have hpL : p < L := by omega
          have hacc7 := hacc.only ho7 (by omega)
          have q7 := only_cell' qr ho7 (by omega)
          have rr7 := only_cell' rrr ho7 (by omega)
          have hlz7 : lo ≤ w7.heap.size := Nat.le_trans hlz ho7.size
          clear hx7 hx70 ho7 hacc qr rrr hCr hlz l0 l1 l2
          have hyl : p < ps.length := by have := HLEN.out; omega
          obtain ⟨y, hy⟩ : ∃ y, ps[p]? = some y := ⟨_, List.getElem?_eq_getElem hyl⟩
          obtain ⟨ga, cga, ev, hgl, hgw, hcA, hfA⟩ := hacc7.cells_at patchC_len hy
          injection ev with ev1 ev3 ev4
          injection ev1 with ev1
          injection ev1 with ev1 _ _
          subst ev1
          clear ev3 ev4
          have hbd := patch_bd (all_at' HPIN.out hy) hlw hlh
          obtain ⟨X, Y, PW, PH, CC⟩ := y
          simp only at hbd
          have y0 := hcA 0 _ rfl
          have y1 := hcA 1 _ rfl
          have y2 := hcA 2 _ rfl
          have y3 := hcA 3 _ rfl
          have y4 := hcA 4 _ rfl
          rw [Nat.add_zero] at y0
          have HY := Lib.hid hy
          have HFA := Lib.hid hfA
          clear hcA hfA hy hyl
          have l0 : w7.cell? ⟨j3, 0, none⟩ = some (.int .i64 3) := by rw [cell_of_row _ _ _ _ _ _ q7]; rfl
          have l1 : w7.cell? ⟨j3, 1, none⟩ = some (.int .i64 3) := by rw [cell_of_row _ _ _ _ _ _ q7]; rfl
          have l2 : w7.cell? ⟨j3, 2, none⟩ = some (.slice (some ⟨gg, 0, none⟩) L c) := by rw [cell_of_row _ _ _ _ _ _ q7]; rfl
          obtain ⟨jp, hjp⟩ : ∃ j, Hid (w7.heap.size = j) := ⟨_, rfl⟩
          obtain ⟨vp, hvp⟩ : ∃ v, Hid (w7.alloc (.cells #[.int .i64 X, .int .i64 Y, .int .i64 PW, .int .i64 PH, .int .i64 CC] 44) = v) := ⟨_, rfl⟩
          have rjp : vp.heap[jp]? = some (.cells #[.int .i64 X, .int .i64 Y, .int .i64 PW, .int .i64 PH, .int .i64 CC] 44 (0, 0)) := by rw [← hvp.out, ← hjp.out]; exact heap_alloc_new w7 _
          have bvp : Below w7.heap.size w7 vp := by rw [← hvp.out]; exact (Below.refl _ _).alloc (Nat.le_refl _) _
          have svp : vp.heap.size = jp + 1 := by rw [← hvp.out, ← hjp.out]; simp
          obtain ⟨jq, hjq⟩ : ∃ j, Hid (vp.heap.size = j) := ⟨_, rfl⟩
          obtain ⟨vq, hvq⟩ : ∃ v, Hid (vp.alloc (.cells #[.int .i64 X, .int .i64 Y, .int .i64 PW, .int .i64 PH, .int .i64 CC] 44) = v) := ⟨_, rfl⟩
          have rjq : vq.heap[jq]? = some (.cells #[.int .i64 X, .int .i64 Y, .int .i64 PW, .int .i64 PH, .int .i64 CC] 44 (0, 0)) := by rw [← hvq.out, ← hjq.out]; exact heap_alloc_new vp _
          have bvq : Below vp.heap.size vp vq := by rw [← hvq.out]; exact (Below.refl _ _).alloc (Nat.le_refl _) _
          have svq : vq.heap.size = jq + 1 := by rw [← hvq.out, ← hjq.out]; simp
          have hjp7 : w7.heap.size = jp := hjp.out
          have hjqp : jq = jp + 1 := by rw [← hjq.out, svp]
          have qp := (bvq.block j3 (by omega)).trans ((bvp.block j3 (by omega)).trans q7)
          have rrp := (bvq.block r2 (by omega)).trans ((bvp.block r2 (by omega)).trans rr7)
          have rpq := (bvq.block jp (by omega)).trans rjp
          have haccq := (hacc7.below bvp).below bvq
          have hCq := (hC7.below bvp).below bvq
          have hlzq : lo ≤ vq.heap.size := by omega
          have a0 : vp.cell? ⟨jp, 0, none⟩ = some (.int .i64 X) := by rw [cell_of_row _ _ _ _ _ _ rjp]; rfl
          have a1 : vp.cell? ⟨jp, 1, none⟩ = some (.int .i64 Y) := by rw [cell_of_row _ _ _ _ _ _ rjp]; rfl
          have a2 : vp.cell? ⟨jp, 2, none⟩ = some (.int .i64 PW) := by rw [cell_of_row _ _ _ _ _ _ rjp]; rfl
          have a3 : vp.cell? ⟨jp, 3, none⟩ = some (.int .i64 PH) := by rw [cell_of_row _ _ _ _ _ _ rjp]; rfl
          have a4 : vp.cell? ⟨jp, 4, none⟩ = some (.int .i64 CC) := by rw [cell_of_row _ _ _ _ _ _ rjp]; rfl
          have hglp : gg < jp := by omega
          have HJ := Lib.hid (And.intro hjp7 (And.intro hjqp svq))
          clear rjp bvp bvq svp svq hjp7 hjqp
          go_wp2_with (first | (rw [hvp.out]; (try rw [hjp.out])) | (rw [hvq.out]; (try rw [hjq.out])))
          refine (l01Once_any W0 g A n xs 2 _ hCq (by omega)).mono ?_
          rintro e w8 ⟨b8, rfl, hC8, ho8⟩
          obtain ⟨hjp7, hjqp, svq⟩ := HJ.out
          have hacc8 := haccq.only ho8 (by omega)
          have q8 := only_cell' qp ho8 (by omega)
          have rr8 := only_cell' rrp ho8 (by omega)
          have rp8 := only_cell' rpq ho8 (by omega)
          have rq8 := only_cell' rjq ho8 (by omega)
          have hlz8 : lo ≤ w8.heap.size := Nat.le_trans hlzq ho8.size
          have hsz8 : jq < w8.heap.size := by have := ho8.size; omega
          clear hacc7 q7 rr7 hC7 hlz7 l0 l1 l2  ho8 haccq qp rrp rpq rjq hCq hlzq y0 y1 y2 y3 y4 hjp7 hjqp svq
          clear a0 a3 a4
          have p0 : w8.cell? ⟨jp, 0, none⟩ = some (.int .i64 X) := by rw [cell_of_row _ _ _ _ _ _ rp8]; rfl
          have p1 : w8.cell? ⟨jp, 1, none⟩ = some (.int .i64 Y) := by rw [cell_of_row _ _ _ _ _ _ rp8]; rfl
          have p2 : w8.cell? ⟨jp, 2, none⟩ = some (.int .i64 PW) := by rw [cell_of_row _ _ _ _ _ _ rp8]; rfl
          have p3 : w8.cell? ⟨jp, 3, none⟩ = some (.int .i64 PH) := by rw [cell_of_row _ _ _ _ _ _ rp8]; rfl
          have p4 : w8.cell? ⟨jp, 4, none⟩ = some (.int .i64 CC) := by rw [cell_of_row _ _ _ _ _ _ rp8]; rfl
          have q_0 : w8.cell? ⟨jq, 0, none⟩ = some (.int .i64 X) := by rw [cell_of_row _ _ _ _ _ _ rq8]; rfl
          have q_1 : w8.cell? ⟨jq, 1, none⟩ = some (.int .i64 Y) := by rw [cell_of_row _ _ _ _ _ _ rq8]; rfl
          have q_2 : w8.cell? ⟨jq, 2, none⟩ = some (.int .i64 PW) := by rw [cell_of_row _ _ _ _ _ _ rq8]; rfl
          have q_3 : w8.cell? ⟨jq, 3, none⟩ = some (.int .i64 PH) := by rw [cell_of_row _ _ _ _ _ _ rq8]; rfl
          have q_4 : w8.cell? ⟨jq, 4, none⟩ = some (.int .i64 CC) := by rw [cell_of_row _ _ _ _ _ _ rq8]; rfl
          rcases b8 with _ | _
          · skip
            by_cases hH : 1 < PH
            · skip
              go_wp2_with fail
              refine (l01Below_any W0 g A n xs (PH - 1) _ hC8 (by omega)).mono ?_
              rintro e w9 ⟨x9, rfl, hx9, hC9, ho9⟩
              have hx90 := hx9.1
              have hx91 := hx9.2.1 (by omega)
              obtain ⟨hjp7, hjqp, svq⟩ := HJ.out
              have q9 := only_cell' q8 ho9 (by omega)
              have rr9 := only_cell' rr8 ho9 (by omega)
              have rp9 := only_cell' rp8 ho9 (by omega)
              have rq9 := only_cell' rq8 ho9 (by omega)
              have hacc9 := hacc8.only ho9 (by omega)
              have hlz9 : lo ≤ w9.heap.size := Nat.le_trans hlz8 ho9.size
              clear hx9 ho9 q8 rr8 rp8 rq8 hacc8 hlz8 hC8 hsz8 p0 q_0 p1 q_1 p2 q_2 p3 q_3 p4 q_4
              obtain ⟨u1, hu1⟩ : ∃ v, Hid (w9.setCell ⟨jq, 1, none⟩ (.int .i64 (Y + (1 + x9))) = v) := ⟨_, rfl⟩
              obtain ⟨u2, hu2⟩ : ∃ v, Hid (u1.setCell ⟨jq, 3, none⟩ (.int .i64 (PH - (1 + x9))) = v) := ⟨_, rfl⟩
              obtain ⟨u3, hu3⟩ : ∃ v, Hid (u2.setCell ⟨jp, 3, none⟩ (.int .i64 (1 + x9)) = v) := ⟨_, rfl⟩
              have rq1 : u1.heap[jq]? = some (.cells #[.int .i64 X, .int .i64 (Y + (1 + x9)), .int .i64 PW, .int .i64 PH, .int .i64 CC] 44 (0, 0)) := by rw [← hu1.out]; exact row_set _ rq9
              have rq2 : u2.heap[jq]? = some (.cells #[.int .i64 X, .int .i64 (Y + (1 + x9)), .int .i64 PW, .int .i64 (PH - (1 + x9)), .int .i64 CC] 44 (0, 0)) := by rw [← hu2.out]; exact row_set _ rq1
              have rp1 : u1.heap[jp]? = some (.cells #[.int .i64 X, .int .i64 Y, .int .i64 PW, .int .i64 PH, .int .i64 CC] 44 (0, 0)) := by rw [← hu1.out, row_far _ (by omega)]; exact rp9
              have rp2 : u2.heap[jp]? = some (.cells #[.int .i64 X, .int .i64 Y, .int .i64 PW, .int .i64 PH, .int .i64 CC] 44 (0, 0)) := by rw [← hu2.out, row_far _ (by omega)]; exact rp1
              have rp3 : u3.heap[jp]? = some (.cells #[.int .i64 X, .int .i64 Y, .int .i64 PW, .int .i64 (1 + x9), .int .i64 CC] 44 (0, 0)) := by rw [← hu3.out]; exact row_set _ rp2
              have rq3 : u3.heap[jq]? = some (.cells #[.int .i64 X, .int .i64 (Y + (1 + x9)), .int .i64 PW, .int .i64 (PH - (1 + x9)), .int .i64 CC] 44 (0, 0)) := by rw [← hu3.out, row_far _ (by omega)]; exact rq2
              have far3 : ∀ b, b ≠ jq → b ≠ jp → u3.heap[b]? = w9.heap[b]? := fun b b1 b2 => by rw [← hu3.out, row_far _ b2, ← hu2.out, row_far _ b1, ← hu1.out, row_far _ b1]
              have q3_ := (far3 j3 (by omega) (by omega)).trans q9
              have rr3_ := (far3 r2 (by omega) (by omega)).trans rr9
              have sz3 : u3.heap.size = w9.heap.size := by rw [← hu3.out, set_size, ← hu2.out, set_size, ← hu1.out, set_size]
              have hacc3_ : Acc u3 lo 44 5 (.slice (some ⟨gg, 0, none⟩) L c) ps patchC := by
                have e1 : Acc u1 lo 44 5 (.slice (some ⟨gg, 0, none⟩) L c) ps patchC := by rw [← hu1.out]; exact hacc9.kept (grown_at _ jq _ _) (fun q hq e => by have h1 : gg = q := Option.some.inj hq; have h2 := Option.some.inj e; omega)
                have e2 : Acc u2 lo 44 5 (.slice (some ⟨gg, 0, none⟩) L c) ps patchC := by rw [← hu2.out]; exact e1.kept (grown_at _ jq _ _) (fun q hq e => by have h1 : gg = q := Option.some.inj hq; have h2 := Option.some.inj e; omega)
                rw [← hu3.out]; exact e2.kept (grown_at _ jp _ _) (fun q hq e => by have h1 : gg = q := Option.some.inj hq; have h2 := Option.some.inj e; omega)
              have hC3_ : Cur W0 u3 g A n xs := by
                have e1 : Cur W0 u1 g A n xs := by rw [← hu1.out]; exact hC9.grow (grown_at _ jq _ _) (fun e => by have := Option.some.inj e; omega) (fun q e => by have := Option.some.inj e; have := hr2.out; omega)
                have e2 : Cur W0 u2 g A n xs := by rw [← hu2.out]; exact e1.grow (grown_at _ jq _ _) (fun e => by have := Option.some.inj e; omega) (fun q e => by have := Option.some.inj e; have := hr2.out; omega)
                rw [← hu3.out]; exact e2.grow (grown_at _ jp _ _) (fun e => by have := Option.some.inj e; omega) (fun q e => by have := Option.some.inj e; have := hr2.out; omega)
              have pa0 : w9.cell? ⟨jp, 0, none⟩ = some (.int .i64 X) := by rw [cell_of_row _ _ _ _ _ _ rp9]; rfl
              have pa1 : w9.cell? ⟨jp, 1, none⟩ = some (.int .i64 Y) := by rw [cell_of_row _ _ _ _ _ _ rp9]; rfl
              have pa2 : w9.cell? ⟨jp, 2, none⟩ = some (.int .i64 PW) := by rw [cell_of_row _ _ _ _ _ _ rp9]; rfl
              have pa3 : w9.cell? ⟨jp, 3, none⟩ = some (.int .i64 PH) := by rw [cell_of_row _ _ _ _ _ _ rp9]; rfl
              have pa4 : w9.cell? ⟨jp, 4, none⟩ = some (.int .i64 CC) := by rw [cell_of_row _ _ _ _ _ _ rp9]; rfl
              have qa0 : w9.cell? ⟨jq, 0, none⟩ = some (.int .i64 X) := by rw [cell_of_row _ _ _ _ _ _ rq9]; rfl
              have qa1 : w9.cell? ⟨jq, 1, none⟩ = some (.int .i64 Y) := by rw [cell_of_row _ _ _ _ _ _ rq9]; rfl
              have qa2 : w9.cell? ⟨jq, 2, none⟩ = some (.int .i64 PW) := by rw [cell_of_row _ _ _ _ _ _ rq9]; rfl
              have qa3 : w9.cell? ⟨jq, 3, none⟩ = some (.int .i64 PH) := by rw [cell_of_row _ _ _ _ _ _ rq9]; rfl
              have qa4 : w9.cell? ⟨jq, 4, none⟩ = some (.int .i64 CC) := by rw [cell_of_row _ _ _ _ _ _ rq9]; rfl
              have fqa1 : w9.frozen? ⟨jq, 1, none⟩ = false := frozen_of_row _ _ _ _ _ rq9
              have pb0 : u1.cell? ⟨jp, 0, none⟩ = some (.int .i64 X) := by rw [cell_of_row _ _ _ _ _ _ rp1]; rfl
              have pb1 : u1.cell? ⟨jp, 1, none⟩ = some (.int .i64 Y) := by rw [cell_of_row _ _ _ _ _ _ rp1]; rfl
              have pb2 : u1.cell? ⟨jp, 2, none⟩ = some (.int .i64 PW) := by rw [cell_of_row _ _ _ _ _ _ rp1]; rfl
              have pb3 : u1.cell? ⟨jp, 3, none⟩ = some (.int .i64 PH) := by rw [cell_of_row _ _ _ _ _ _ rp1]; rfl
              have pb4 : u1.cell? ⟨jp, 4, none⟩ = some (.int .i64 CC) := by rw [cell_of_row _ _ _ _ _ _ rp1]; rfl
              have qb0 : u1.cell? ⟨jq, 0, none⟩ = some (.int .i64 X) := by rw [cell_of_row _ _ _ _ _ _ rq1]; rfl
              have qb1 : u1.cell? ⟨jq, 1, none⟩ = some (.int .i64 (Y + (1 + x9))) := by rw [cell_of_row _ _ _ _ _ _ rq1]; rfl
              have qb2 : u1.cell? ⟨jq, 2, none⟩ = some (.int .i64 PW) := by rw [cell_of_row _ _ _ _ _ _ rq1]; rfl
              have qb3 : u1.cell? ⟨jq, 3, none⟩ = some (.int .i64 PH) := by rw [cell_of_row _ _ _ _ _ _ rq1]; rfl
              have qb4 : u1.cell? ⟨jq, 4, none⟩ = some (.int .i64 CC) := by rw [cell_of_row _ _ _ _ _ _ rq1]; rfl
              have fqb3 : u1.frozen? ⟨jq, 3, none⟩ = false := frozen_of_row _ _ _ _ _ rq1
              have pc0 : u2.cell? ⟨jp, 0, none⟩ = some (.int .i64 X) := by rw [cell_of_row _ _ _ _ _ _ rp2]; rfl
              have pc1 : u2.cell? ⟨jp, 1, none⟩ = some (.int .i64 Y) := by rw [cell_of_row _ _ _ _ _ _ rp2]; rfl
              have pc2 : u2.cell? ⟨jp, 2, none⟩ = some (.int .i64 PW) := by rw [cell_of_row _ _ _ _ _ _ rp2]; rfl
              have pc3 : u2.cell? ⟨jp, 3, none⟩ = some (.int .i64 PH) := by rw [cell_of_row _ _ _ _ _ _ rp2]; rfl
              have pc4 : u2.cell? ⟨jp, 4, none⟩ = some (.int .i64 CC) := by rw [cell_of_row _ _ _ _ _ _ rp2]; rfl
              have fpc3 : u2.frozen? ⟨jp, 3, none⟩ = false := frozen_of_row _ _ _ _ _ rp2
              have hs1 : IntKind.i64.wrap (Y + (1 + x9)) = Y + (1 + x9) := by simp (disch := omega) only [IntWalk.i64_in]
              have hs2 : IntKind.i64.wrap (PH - (1 + x9)) = PH - (1 + x9) := by simp (disch := omega) only [IntWalk.i64_in]
              have Hrp3 := Lib.hid rp3
              have Hrq3 := Lib.hid rq3
              have Hq3_ := Lib.hid q3_
              have Hrr3_ := Lib.hid rr3_
              have Hhacc3_ := Lib.hid hacc3_
              have Hsz3 := Lib.hid sz3
              have HLZ := Lib.hid hlz9
              clear rp3 rq3 q3_ rr3_ hacc3_ sz3 rq1 rq2 rp1 rp2 rp9 rq9 q9 rr9 hacc9 hlz9 hC9 far3 hjp7 hjqp svq
              go_wp2_with (first | rw [hu1.out] | rw [hu2.out] | rw [hu3.out])
              refine (l01Below_any W0 g A n xs 5 _ hC3_ (by omega)).mono ?_
              rintro e wt ⟨x10, rfl, hx10_, hCt, hot⟩
              have hc0 := hx10_.1
              have hc1 := hx10_.2.1 (by omega)
              obtain ⟨hjp7, hjqp, svq⟩ := HJ.out
              have qt := only_cell' Hq3_.out hot (by omega)
              have rrt := only_cell' Hrr3_.out hot (by omega)
              have rpt := only_cell' Hrp3.out hot (by omega)
              have rqt := only_cell' Hrq3.out hot (by omega)
              have hacct := Hhacc3_.out.only hot (by omega)
              have hlzt : lo ≤ wt.heap.size := by have h1 := HLZ.out; have h2 := hot.size; have h3 := Hsz3.out; omega
              clear hC3_ hx10_ hot pa0 qa0 pb0 qb0 pc0 pa1 qa1 pb1 qb1 pc1 pa2 qa2 pb2 qb2 pc2 pa3 qa3 pb3 qb3 pc3 pa4 qa4 pb4 qb4 pc4 fqa1 fqb3 fpc3
              obtain ⟨u4, hu4⟩ : ∃ v, Hid (wt.setCell ⟨jq, 4, none⟩ (.int .i64 x10) = v) := ⟨_, rfl⟩
              have rq4 : u4.heap[jq]? = some (.cells #[.int .i64 X, .int .i64 (Y + (1 + x9)), .int .i64 PW, .int .i64 (PH - (1 + x9)), .int .i64 x10] 44 (0, 0)) := by rw [← hu4.out]; exact row_set _ rqt
              have far4 : ∀ b, b ≠ jq → u4.heap[b]? = wt.heap[b]? := fun b b1 => by rw [← hu4.out, row_far _ b1]
              have rp4 := (far4 jp (by omega)).trans rpt
              have q4 := (far4 j3 (by omega)).trans qt
              have rr4 := (far4 r2 (by omega)).trans rrt
              have hacc4 : Acc u4 lo 44 5 (.slice (some ⟨gg, 0, none⟩) L c) ps patchC := by rw [← hu4.out]; exact hacct.kept (grown_at _ jq _ _) (fun q hq e => by have h1 : gg = q := Option.some.inj hq; have h2 := Option.some.inj e; omega)
              have hC4 : Cur W0 u4 g A n xs := by rw [← hu4.out]; exact hCt.grow (grown_at _ jq _ _) (fun e => by have := Option.some.inj e; omega) (fun q e => by have := Option.some.inj e; have := hr2.out; omega)
              have hlz4 : lo ≤ u4.heap.size := by rw [← hu4.out, set_size]; exact hlzt
              rw [← HLEN.out] at hacc4
              obtain ⟨gb, cgb, ev, _, _, hcB, hfB⟩ := hacc4.cells_at patchC_len HY.out
              injection ev with ev1 ev3 ev4
              injection ev1 with ev1
              injection ev1 with ev1 _ _
              subst ev1
              clear ev3 ev4
              have yb0 := hcB 0 _ rfl
              have fb0 := hfB (p * 5 + 0)
              have yb1 := hcB 1 _ rfl
              have fb1 := hfB (p * 5 + 1)
              have yb2 := hcB 2 _ rfl
              have fb2 := hfB (p * 5 + 2)
              have yb3 := hcB 3 _ rfl
              have fb3 := hfB (p * 5 + 3)
              have yb4 := hcB 4 _ rfl
              have fb4 := hfB (p * 5 + 4)
              rw [Nat.add_zero] at yb0 fb0
              clear hcB hfB
              obtain ⟨u5, hu5⟩ : ∃ v, Hid ((((((u4.setCell ⟨gg, p * 5, none⟩ (.int .i64 X)).setCell ⟨gg, p * 5 + 1, none⟩ (.int .i64 Y)).setCell ⟨gg, p * 5 + 2, none⟩ (.int .i64 PW)).setCell ⟨gg, p * 5 + 3, none⟩ (.int .i64 (1 + x9))).setCell ⟨gg, p * 5 + 4, none⟩ (.int .i64 CC)) = v) := ⟨_, rfl⟩
              have hacc5 : Acc u5 lo 44 5 (.slice (some ⟨gg, 0, none⟩) ps.length c) (ps.set p ⟨X, Y, PW, (1 + x9), CC⟩) patchC := by
                have hx0 : ps[p]? = some (⟨X, Y, PW, PH, CC⟩ : Patch) := HY.out
                have hpl : p < ps.length := (List.getElem?_eq_some_iff.1 hx0).1
                have s0 := (Acc.put hacc4 patchC_len (p := p) (j := 0) (x := ⟨X, Y, PW, PH, CC⟩) (y := ⟨X, Y, PW, PH, CC⟩) (u := .int .i64 X) hx0 (by omega) rfl).1
                have hx1 : (ps.set p (⟨X, Y, PW, PH, CC⟩ : Patch))[p]? = some (⟨X, Y, PW, PH, CC⟩ : Patch) := by rw [List.getElem?_set_self (by first | omega | (simp; omega))]
                rw [show (ps).length = (ps.set p (⟨X, Y, PW, PH, CC⟩ : Patch)).length by simp] at s0
                have s1 := (Acc.put s0 patchC_len (p := p) (j := 1) (x := ⟨X, Y, PW, PH, CC⟩) (y := ⟨X, Y, PW, PH, CC⟩) (u := .int .i64 Y) hx1 (by omega) rfl).1
                have hx2 : ((ps.set p (⟨X, Y, PW, PH, CC⟩ : Patch)).set p (⟨X, Y, PW, PH, CC⟩ : Patch))[p]? = some (⟨X, Y, PW, PH, CC⟩ : Patch) := by rw [List.getElem?_set_self (by first | omega | (simp; omega))]
                rw [show ((ps.set p (⟨X, Y, PW, PH, CC⟩ : Patch))).length = ((ps.set p (⟨X, Y, PW, PH, CC⟩ : Patch)).set p (⟨X, Y, PW, PH, CC⟩ : Patch)).length by simp] at s1
                have s2 := (Acc.put s1 patchC_len (p := p) (j := 2) (x := ⟨X, Y, PW, PH, CC⟩) (y := ⟨X, Y, PW, PH, CC⟩) (u := .int .i64 PW) hx2 (by omega) rfl).1
                have hx3 : (((ps.set p (⟨X, Y, PW, PH, CC⟩ : Patch)).set p (⟨X, Y, PW, PH, CC⟩ : Patch)).set p (⟨X, Y, PW, PH, CC⟩ : Patch))[p]? = some (⟨X, Y, PW, PH, CC⟩ : Patch) := by rw [List.getElem?_set_self (by first | omega | (simp; omega))]
                rw [show (((ps.set p (⟨X, Y, PW, PH, CC⟩ : Patch)).set p (⟨X, Y, PW, PH, CC⟩ : Patch))).length = (((ps.set p (⟨X, Y, PW, PH, CC⟩ : Patch)).set p (⟨X, Y, PW, PH, CC⟩ : Patch)).set p (⟨X, Y, PW, PH, CC⟩ : Patch)).length by simp] at s2
                have s3 := (Acc.put s2 patchC_len (p := p) (j := 3) (x := ⟨X, Y, PW, PH, CC⟩) (y := ⟨X, Y, PW, (1 + x9), CC⟩) (u := .int .i64 (1 + x9)) hx3 (by omega) rfl).1
                have hx4 : ((((ps.set p (⟨X, Y, PW, PH, CC⟩ : Patch)).set p (⟨X, Y, PW, PH, CC⟩ : Patch)).set p (⟨X, Y, PW, PH, CC⟩ : Patch)).set p (⟨X, Y, PW, (1 + x9), CC⟩ : Patch))[p]? = some (⟨X, Y, PW, (1 + x9), CC⟩ : Patch) := by rw [List.getElem?_set_self (by first | omega | (simp; omega))]
                rw [show ((((ps.set p (⟨X, Y, PW, PH, CC⟩ : Patch)).set p (⟨X, Y, PW, PH, CC⟩ : Patch)).set p (⟨X, Y, PW, PH, CC⟩ : Patch))).length = ((((ps.set p (⟨X, Y, PW, PH, CC⟩ : Patch)).set p (⟨X, Y, PW, PH, CC⟩ : Patch)).set p (⟨X, Y, PW, PH, CC⟩ : Patch)).set p (⟨X, Y, PW, (1 + x9), CC⟩ : Patch)).length by simp] at s3
                have s4 := (Acc.put s3 patchC_len (p := p) (j := 4) (x := ⟨X, Y, PW, (1 + x9), CC⟩) (y := ⟨X, Y, PW, (1 + x9), CC⟩) (u := .int .i64 CC) hx4 (by omega) rfl).1
                simp only [List.set_set, List.length_set, Nat.add_zero] at s4
                rw [hu5.out] at s4
                exact s4
              have far5 : ∀ b, b ≠ gg → u5.heap[b]? = u4.heap[b]? := fun b b1 => by rw [← hu5.out, row_far _ b1, row_far _ b1, row_far _ b1, row_far _ b1, row_far _ b1]
              have q5_ := (far5 j3 (by omega)).trans q4
              have rr5_ := (far5 r2 (by omega)).trans rr4
              have rq5 := (far5 jq (by omega)).trans rq4
              have hC5_ : Cur W0 u5 g A n xs := by rw [← hu5.out]; exact ((((hC4.grow (grown_at _ gg _ _) (fun e => by have := Option.some.inj e; omega) (fun q e => by have := Option.some.inj e; have := hr2.out; omega)).grow (grown_at _ gg _ _) (fun e => by have := Option.some.inj e; omega) (fun q e => by have := Option.some.inj e; have := hr2.out; omega)).grow (grown_at _ gg _ _) (fun e => by have := Option.some.inj e; omega) (fun q e => by have := Option.some.inj e; have := hr2.out; omega)).grow (grown_at _ gg _ _) (fun e => by have := Option.some.inj e; omega) (fun q e => by have := Option.some.inj e; have := hr2.out; omega)).grow (grown_at _ gg _ _) (fun e => by have := Option.some.inj e; omega) (fun q e => by have := Option.some.inj e; have := hr2.out; omega)
              have hlz5_ : lo ≤ u5.heap.size := by rw [← hu5.out, set_size, set_size, set_size, set_size, set_size]; exact hlz4
              have ta0 : wt.cell? ⟨jq, 0, none⟩ = some (.int .i64 X) := by rw [cell_of_row _ _ _ _ _ _ rqt]; rfl
              have ta1 : wt.cell? ⟨jq, 1, none⟩ = some (.int .i64 (Y + (1 + x9))) := by rw [cell_of_row _ _ _ _ _ _ rqt]; rfl
              have ta2 : wt.cell? ⟨jq, 2, none⟩ = some (.int .i64 PW) := by rw [cell_of_row _ _ _ _ _ _ rqt]; rfl
              have ta3 : wt.cell? ⟨jq, 3, none⟩ = some (.int .i64 (PH - (1 + x9))) := by rw [cell_of_row _ _ _ _ _ _ rqt]; rfl
              have ta4 : wt.cell? ⟨jq, 4, none⟩ = some (.int .i64 CC) := by rw [cell_of_row _ _ _ _ _ _ rqt]; rfl
              have fta4 : wt.frozen? ⟨jq, 4, none⟩ = false := frozen_of_row _ _ _ _ _ rqt
              have tb0 : u4.cell? ⟨jp, 0, none⟩ = some (.int .i64 X) := by rw [cell_of_row _ _ _ _ _ _ rp4]; rfl
              have tb1 : u4.cell? ⟨jp, 1, none⟩ = some (.int .i64 Y) := by rw [cell_of_row _ _ _ _ _ _ rp4]; rfl
              have tb2 : u4.cell? ⟨jp, 2, none⟩ = some (.int .i64 PW) := by rw [cell_of_row _ _ _ _ _ _ rp4]; rfl
              have tb3 : u4.cell? ⟨jp, 3, none⟩ = some (.int .i64 (1 + x9)) := by rw [cell_of_row _ _ _ _ _ _ rp4]; rfl
              have tb4 : u4.cell? ⟨jp, 4, none⟩ = some (.int .i64 CC) := by rw [cell_of_row _ _ _ _ _ _ rp4]; rfl
              have tc0 : u4.cell? ⟨j3, 0, none⟩ = some (.int .i64 3) := by rw [cell_of_row _ _ _ _ _ _ q4]; rfl
              have tc1 : u4.cell? ⟨j3, 1, none⟩ = some (.int .i64 3) := by rw [cell_of_row _ _ _ _ _ _ q4]; rfl
              have tc2 : u4.cell? ⟨j3, 2, none⟩ = some (.slice (some ⟨gg, 0, none⟩) L c) := by rw [cell_of_row _ _ _ _ _ _ q4]; rfl
              have td0 : u5.cell? ⟨jq, 0, none⟩ = some (.int .i64 X) := by rw [cell_of_row _ _ _ _ _ _ rq5]; rfl
              have td1 : u5.cell? ⟨jq, 1, none⟩ = some (.int .i64 (Y + (1 + x9))) := by rw [cell_of_row _ _ _ _ _ _ rq5]; rfl
              have td2 : u5.cell? ⟨jq, 2, none⟩ = some (.int .i64 PW) := by rw [cell_of_row _ _ _ _ _ _ rq5]; rfl
              have td3 : u5.cell? ⟨jq, 3, none⟩ = some (.int .i64 (PH - (1 + x9))) := by rw [cell_of_row _ _ _ _ _ _ rq5]; rfl
              have td4 : u5.cell? ⟨jq, 4, none⟩ = some (.int .i64 x10) := by rw [cell_of_row _ _ _ _ _ _ rq5]; rfl
              have te0 : u5.cell? ⟨j3, 0, none⟩ = some (.int .i64 3) := by rw [cell_of_row _ _ _ _ _ _ q5_]; rfl
              have te1 : u5.cell? ⟨j3, 1, none⟩ = some (.int .i64 3) := by rw [cell_of_row _ _ _ _ _ _ q5_]; rfl
              have te2 : u5.cell? ⟨j3, 2, none⟩ = some (.slice (some ⟨gg, 0, none⟩) L c) := by rw [cell_of_row _ _ _ _ _ _ q5_]; rfl
              have hpI : (p : Int) < (L : Int) := by omega
              have HOK2 := Lib.hid (cut_y hok.out HY.out (show ps.length < 12 by have := HLEN.out; omega) (a := 1 + x9) (c2 := x10) (by omega) (by omega) (by omega) (by omega))
              have hlen5 : (ps.set p ⟨X, Y, PW, (1 + x9), CC⟩).length = L := by rw [List.length_set]; exact HLEN.out
              rw [HLEN.out] at hacc5
              have hln5 : (ps.set p ⟨X, Y, PW, (1 + x9), CC⟩).length + 1 ≤ 4294967296 := by omega
              have HQ5 := Lib.hid q5_
              have HLL := Lib.hid hlen5
              have HRR := Lib.hid rr5_
              have HC5 := Lib.hid hC5_
              clear rq4 far4 rp4 q4 rr4 hacc4 hC4 hlz4 rpt rqt qt rrt hacct hCt hlzt far5 rq5 q5_ hlen5 rr5_ hC5_ hjp7 hjqp svq
              go_wp2_with (first | rw [hu4.out] | rw [hu5.out] | (at_builtin; refine wpList_acc1 rfl _ _ 28 rfl lo 44 (.agg #[.int .i64 0, .int .i64 0, .int .i64 0, .int .i64 0, .int .i64 0]) 5 40 Try.underlying28 infoPatch rfl (by omega) _ (ps.set p ⟨X, Y, PW, (1 + x9), CC⟩) patchC ⟨X, Y + (1 + x9), PW, PH - (1 + x9), x10⟩ rfl hacc5 _ _ rfl _ rfl (by simp) rfl (by simp [patchC, Value.oneCell']) hln5 (by omega) hlz5_ ?_; intro v7 w7_ hacc7 hgrow7 hat7; have hch7 : ∀ b, b < lo → w7_.heap[b]? = u5.heap[b]? := fun b hb => hgrow7.block b (by omega) (fun e => by have := (hacc5.row e.symm).1; omega); have f7 : w7_.frozen? ⟨j3, 2, none⟩ = false := frozen_of_row _ _ _ _ _ ((hch7 j3 hjl).trans HQ5.out); have c7 := cell_blk te2 (hch7 j3 hjl); obtain ⟨G7, L7, c7', e7⟩ : ∃ (G L : Nat) (cc : Nat), v7 = .slice (some ⟨G, 0, none⟩) L cc ∧ L = (ps.set p ⟨X, Y, PW, (1 + x9), CC⟩).length + 1 := (by obtain ⟨G, cc, ev, _⟩ := hacc7.cells_at patchC_len (p := (ps.set p ⟨X, Y, PW, (1 + x9), CC⟩).length) (x := ⟨X, Y + (1 + x9), PW, PH - (1 + x9), x10⟩) List.getElem?_concat_length; exact ⟨G, _, cc, ev, List.length_append⟩); obtain ⟨e7, e8⟩ := e7; have E7 := Lib.hid e7; have E8 := Lib.hid e8; rw [e7]; clear e7 e8))
              go_roundw
              case rel =>
                have q9 := row_set (o := 2) (.slice (some ⟨G7, 0, none⟩) L7 c7') ((hch7 j3 hjl).trans HQ5.out)
                rw [E7.out] at hacc7
                have hacc9 := acc_low hacc7 hjl (o := 2) (.slice (some ⟨G7, 0, none⟩) L7 c7')
                have rr9 := (row_far (w := w7_) (b := j3) (o := 2) (.slice (some ⟨G7, 0, none⟩) L7 c7') (show r2 ≠ j3 by omega)).trans ((hch7 r2 (by omega)).trans HRR.out)
                have hcr : W0.heap.size ≤ r2 := by have := hr2.out; omega
                have hC9 := (HC5.out.grow hgrow7 (fun e => by have := (hacc5.row e).1; omega) (fun q hq => by have := (hacc5.row hq).1; omega)).grow (grown_at _ j3 2 (.slice (some ⟨G7, 0, none⟩) L7 c7')) (fun e => by have := Option.some.inj e; omega) (fun q e => by have := Option.some.inj e; omega)
                exact ⟨k + 1, L7, c7', G7, _, HKM.out, by go_num, q9, hacc9, by rw [List.length_append, E8.out]; rfl, HOK2.out, rr9, hC9, by rw [set_size]; exact Nat.le_trans hlz5_ hgrow7.size⟩
              case measure => have := HKM.out; simp [intOf]; omega
            · have hH2 := Int.not_lt.1 hH
              go_wp2_with fail
              go_roundw
              case rel => exact ⟨k + 1, L, c, gg, ps, HKM.out, by go_num, q8, hacc8, HLEN.out, hok, rr8, hC8, hlz8⟩
              case measure => have := HKM.out; simp [intOf]; omega
          · by_cases hW : 1 < PW
            · skip
              go_wp2_with fail
              refine (l01Below_any W0 g A n xs (PW - 1) _ hC8 (by omega)).mono ?_
              rintro e w9 ⟨x9, rfl, hx9, hC9, ho9⟩
              have hx90 := hx9.1
              have hx91 := hx9.2.1 (by omega)
              obtain ⟨hjp7, hjqp, svq⟩ := HJ.out
              have q9 := only_cell' q8 ho9 (by omega)
              have rr9 := only_cell' rr8 ho9 (by omega)
              have rp9 := only_cell' rp8 ho9 (by omega)
              have rq9 := only_cell' rq8 ho9 (by omega)
              have hacc9 := hacc8.only ho9 (by omega)
              have hlz9 : lo ≤ w9.heap.size := Nat.le_trans hlz8 ho9.size
              clear hx9 ho9 q8 rr8 rp8 rq8 hacc8 hlz8 hC8 hsz8 p0 q_0 p1 q_1 p2 q_2 p3 q_3 p4 q_4
              obtain ⟨u1, hu1⟩ : ∃ v, Hid (w9.setCell ⟨jq, 0, none⟩ (.int .i64 (X + (1 + x9))) = v) := ⟨_, rfl⟩
              obtain ⟨u2, hu2⟩ : ∃ v, Hid (u1.setCell ⟨jq, 2, none⟩ (.int .i64 (PW - (1 + x9))) = v) := ⟨_, rfl⟩
              obtain ⟨u3, hu3⟩ : ∃ v, Hid (u2.setCell ⟨jp, 2, none⟩ (.int .i64 (1 + x9)) = v) := ⟨_, rfl⟩
              have rq1 : u1.heap[jq]? = some (.cells #[.int .i64 (X + (1 + x9)), .int .i64 Y, .int .i64 PW, .int .i64 PH, .int .i64 CC] 44 (0, 0)) := by rw [← hu1.out]; exact row_set _ rq9
              have rq2 : u2.heap[jq]? = some (.cells #[.int .i64 (X + (1 + x9)), .int .i64 Y, .int .i64 (PW - (1 + x9)), .int .i64 PH, .int .i64 CC] 44 (0, 0)) := by rw [← hu2.out]; exact row_set _ rq1
              have rp1 : u1.heap[jp]? = some (.cells #[.int .i64 X, .int .i64 Y, .int .i64 PW, .int .i64 PH, .int .i64 CC] 44 (0, 0)) := by rw [← hu1.out, row_far _ (by omega)]; exact rp9
              have rp2 : u2.heap[jp]? = some (.cells #[.int .i64 X, .int .i64 Y, .int .i64 PW, .int .i64 PH, .int .i64 CC] 44 (0, 0)) := by rw [← hu2.out, row_far _ (by omega)]; exact rp1
              have rp3 : u3.heap[jp]? = some (.cells #[.int .i64 X, .int .i64 Y, .int .i64 (1 + x9), .int .i64 PH, .int .i64 CC] 44 (0, 0)) := by rw [← hu3.out]; exact row_set _ rp2
              have rq3 : u3.heap[jq]? = some (.cells #[.int .i64 (X + (1 + x9)), .int .i64 Y, .int .i64 (PW - (1 + x9)), .int .i64 PH, .int .i64 CC] 44 (0, 0)) := by rw [← hu3.out, row_far _ (by omega)]; exact rq2
              have far3 : ∀ b, b ≠ jq → b ≠ jp → u3.heap[b]? = w9.heap[b]? := fun b b1 b2 => by rw [← hu3.out, row_far _ b2, ← hu2.out, row_far _ b1, ← hu1.out, row_far _ b1]
              have q3_ := (far3 j3 (by omega) (by omega)).trans q9
              have rr3_ := (far3 r2 (by omega) (by omega)).trans rr9
              have sz3 : u3.heap.size = w9.heap.size := by rw [← hu3.out, set_size, ← hu2.out, set_size, ← hu1.out, set_size]
              have hacc3_ : Acc u3 lo 44 5 (.slice (some ⟨gg, 0, none⟩) L c) ps patchC := by
                have e1 : Acc u1 lo 44 5 (.slice (some ⟨gg, 0, none⟩) L c) ps patchC := by rw [← hu1.out]; exact hacc9.kept (grown_at _ jq _ _) (fun q hq e => by have h1 : gg = q := Option.some.inj hq; have h2 := Option.some.inj e; omega)
                have e2 : Acc u2 lo 44 5 (.slice (some ⟨gg, 0, none⟩) L c) ps patchC := by rw [← hu2.out]; exact e1.kept (grown_at _ jq _ _) (fun q hq e => by have h1 : gg = q := Option.some.inj hq; have h2 := Option.some.inj e; omega)
                rw [← hu3.out]; exact e2.kept (grown_at _ jp _ _) (fun q hq e => by have h1 : gg = q := Option.some.inj hq; have h2 := Option.some.inj e; omega)
              have hC3_ : Cur W0 u3 g A n xs := by
                have e1 : Cur W0 u1 g A n xs := by rw [← hu1.out]; exact hC9.grow (grown_at _ jq _ _) (fun e => by have := Option.some.inj e; omega) (fun q e => by have := Option.some.inj e; have := hr2.out; omega)
                have e2 : Cur W0 u2 g A n xs := by rw [← hu2.out]; exact e1.grow (grown_at _ jq _ _) (fun e => by have := Option.some.inj e; omega) (fun q e => by have := Option.some.inj e; have := hr2.out; omega)
                rw [← hu3.out]; exact e2.grow (grown_at _ jp _ _) (fun e => by have := Option.some.inj e; omega) (fun q e => by have := Option.some.inj e; have := hr2.out; omega)
              have pa0 : w9.cell? ⟨jp, 0, none⟩ = some (.int .i64 X) := by rw [cell_of_row _ _ _ _ _ _ rp9]; rfl
              have pa1 : w9.cell? ⟨jp, 1, none⟩ = some (.int .i64 Y) := by rw [cell_of_row _ _ _ _ _ _ rp9]; rfl
              have pa2 : w9.cell? ⟨jp, 2, none⟩ = some (.int .i64 PW) := by rw [cell_of_row _ _ _ _ _ _ rp9]; rfl
              have pa3 : w9.cell? ⟨jp, 3, none⟩ = some (.int .i64 PH) := by rw [cell_of_row _ _ _ _ _ _ rp9]; rfl
              have pa4 : w9.cell? ⟨jp, 4, none⟩ = some (.int .i64 CC) := by rw [cell_of_row _ _ _ _ _ _ rp9]; rfl
              have qa0 : w9.cell? ⟨jq, 0, none⟩ = some (.int .i64 X) := by rw [cell_of_row _ _ _ _ _ _ rq9]; rfl
              have qa1 : w9.cell? ⟨jq, 1, none⟩ = some (.int .i64 Y) := by rw [cell_of_row _ _ _ _ _ _ rq9]; rfl
              have qa2 : w9.cell? ⟨jq, 2, none⟩ = some (.int .i64 PW) := by rw [cell_of_row _ _ _ _ _ _ rq9]; rfl
              have qa3 : w9.cell? ⟨jq, 3, none⟩ = some (.int .i64 PH) := by rw [cell_of_row _ _ _ _ _ _ rq9]; rfl
              have qa4 : w9.cell? ⟨jq, 4, none⟩ = some (.int .i64 CC) := by rw [cell_of_row _ _ _ _ _ _ rq9]; rfl
              have fqa0 : w9.frozen? ⟨jq, 0, none⟩ = false := frozen_of_row _ _ _ _ _ rq9
              have pb0 : u1.cell? ⟨jp, 0, none⟩ = some (.int .i64 X) := by rw [cell_of_row _ _ _ _ _ _ rp1]; rfl
              have pb1 : u1.cell? ⟨jp, 1, none⟩ = some (.int .i64 Y) := by rw [cell_of_row _ _ _ _ _ _ rp1]; rfl
              have pb2 : u1.cell? ⟨jp, 2, none⟩ = some (.int .i64 PW) := by rw [cell_of_row _ _ _ _ _ _ rp1]; rfl
              have pb3 : u1.cell? ⟨jp, 3, none⟩ = some (.int .i64 PH) := by rw [cell_of_row _ _ _ _ _ _ rp1]; rfl
              have pb4 : u1.cell? ⟨jp, 4, none⟩ = some (.int .i64 CC) := by rw [cell_of_row _ _ _ _ _ _ rp1]; rfl
              have qb0 : u1.cell? ⟨jq, 0, none⟩ = some (.int .i64 (X + (1 + x9))) := by rw [cell_of_row _ _ _ _ _ _ rq1]; rfl
              have qb1 : u1.cell? ⟨jq, 1, none⟩ = some (.int .i64 Y) := by rw [cell_of_row _ _ _ _ _ _ rq1]; rfl
              have qb2 : u1.cell? ⟨jq, 2, none⟩ = some (.int .i64 PW) := by rw [cell_of_row _ _ _ _ _ _ rq1]; rfl
              have qb3 : u1.cell? ⟨jq, 3, none⟩ = some (.int .i64 PH) := by rw [cell_of_row _ _ _ _ _ _ rq1]; rfl
              have qb4 : u1.cell? ⟨jq, 4, none⟩ = some (.int .i64 CC) := by rw [cell_of_row _ _ _ _ _ _ rq1]; rfl
              have fqb2 : u1.frozen? ⟨jq, 2, none⟩ = false := frozen_of_row _ _ _ _ _ rq1
              have pc0 : u2.cell? ⟨jp, 0, none⟩ = some (.int .i64 X) := by rw [cell_of_row _ _ _ _ _ _ rp2]; rfl
              have pc1 : u2.cell? ⟨jp, 1, none⟩ = some (.int .i64 Y) := by rw [cell_of_row _ _ _ _ _ _ rp2]; rfl
              have pc2 : u2.cell? ⟨jp, 2, none⟩ = some (.int .i64 PW) := by rw [cell_of_row _ _ _ _ _ _ rp2]; rfl
              have pc3 : u2.cell? ⟨jp, 3, none⟩ = some (.int .i64 PH) := by rw [cell_of_row _ _ _ _ _ _ rp2]; rfl
              have pc4 : u2.cell? ⟨jp, 4, none⟩ = some (.int .i64 CC) := by rw [cell_of_row _ _ _ _ _ _ rp2]; rfl
              have fpc2 : u2.frozen? ⟨jp, 2, none⟩ = false := frozen_of_row _ _ _ _ _ rp2
              have hs1 : IntKind.i64.wrap (X + (1 + x9)) = X + (1 + x9) := by simp (disch := omega) only [IntWalk.i64_in]
              have hs2 : IntKind.i64.wrap (PW - (1 + x9)) = PW - (1 + x9) := by simp (disch := omega) only [IntWalk.i64_in]
              have Hrp3 := Lib.hid rp3
              have Hrq3 := Lib.hid rq3
              have Hq3_ := Lib.hid q3_
              have Hrr3_ := Lib.hid rr3_
              have Hhacc3_ := Lib.hid hacc3_
              have Hsz3 := Lib.hid sz3
              have HLZ := Lib.hid hlz9
              clear rp3 rq3 q3_ rr3_ hacc3_ sz3 rq1 rq2 rp1 rp2 rp9 rq9 q9 rr9 hacc9 hlz9 hC9 far3 hjp7 hjqp svq
              go_wp2_with (first | rw [hu1.out] | rw [hu2.out] | rw [hu3.out])
              refine (l01Below_any W0 g A n xs 5 _ hC3_ (by omega)).mono ?_
              rintro e wt ⟨x10, rfl, hx10_, hCt, hot⟩
              have hc0 := hx10_.1
              have hc1 := hx10_.2.1 (by omega)
              obtain ⟨hjp7, hjqp, svq⟩ := HJ.out
              have qt := only_cell' Hq3_.out hot (by omega)
              have rrt := only_cell' Hrr3_.out hot (by omega)
              have rpt := only_cell' Hrp3.out hot (by omega)
              have rqt := only_cell' Hrq3.out hot (by omega)
              have hacct := Hhacc3_.out.only hot (by omega)
              have hlzt : lo ≤ wt.heap.size := by have h1 := HLZ.out; have h2 := hot.size; have h3 := Hsz3.out; omega
              clear hC3_ hx10_ hot pa0 qa0 pb0 qb0 pc0 pa1 qa1 pb1 qb1 pc1 pa2 qa2 pb2 qb2 pc2 pa3 qa3 pb3 qb3 pc3 pa4 qa4 pb4 qb4 pc4 fqa0 fqb2 fpc2
              obtain ⟨u4, hu4⟩ : ∃ v, Hid (wt.setCell ⟨jq, 4, none⟩ (.int .i64 x10) = v) := ⟨_, rfl⟩
              have rq4 : u4.heap[jq]? = some (.cells #[.int .i64 (X + (1 + x9)), .int .i64 Y, .int .i64 (PW - (1 + x9)), .int .i64 PH, .int .i64 x10] 44 (0, 0)) := by rw [← hu4.out]; exact row_set _ rqt
              have far4 : ∀ b, b ≠ jq → u4.heap[b]? = wt.heap[b]? := fun b b1 => by rw [← hu4.out, row_far _ b1]
              have rp4 := (far4 jp (by omega)).trans rpt
              have q4 := (far4 j3 (by omega)).trans qt
              have rr4 := (far4 r2 (by omega)).trans rrt
              have hacc4 : Acc u4 lo 44 5 (.slice (some ⟨gg, 0, none⟩) L c) ps patchC := by rw [← hu4.out]; exact hacct.kept (grown_at _ jq _ _) (fun q hq e => by have h1 : gg = q := Option.some.inj hq; have h2 := Option.some.inj e; omega)
              have hC4 : Cur W0 u4 g A n xs := by rw [← hu4.out]; exact hCt.grow (grown_at _ jq _ _) (fun e => by have := Option.some.inj e; omega) (fun q e => by have := Option.some.inj e; have := hr2.out; omega)
              have hlz4 : lo ≤ u4.heap.size := by rw [← hu4.out, set_size]; exact hlzt
              rw [← HLEN.out] at hacc4
              obtain ⟨gb, cgb, ev, _, _, hcB, hfB⟩ := hacc4.cells_at patchC_len HY.out
              injection ev with ev1 ev3 ev4
              injection ev1 with ev1
              injection ev1 with ev1 _ _
              subst ev1
              clear ev3 ev4
              have yb0 := hcB 0 _ rfl
              have fb0 := hfB (p * 5 + 0)
              have yb1 := hcB 1 _ rfl
              have fb1 := hfB (p * 5 + 1)
              have yb2 := hcB 2 _ rfl
              have fb2 := hfB (p * 5 + 2)
              have yb3 := hcB 3 _ rfl
              have fb3 := hfB (p * 5 + 3)
              have yb4 := hcB 4 _ rfl
              have fb4 := hfB (p * 5 + 4)
              rw [Nat.add_zero] at yb0 fb0
              clear hcB hfB
              obtain ⟨u5, hu5⟩ : ∃ v, Hid ((((((u4.setCell ⟨gg, p * 5, none⟩ (.int .i64 X)).setCell ⟨gg, p * 5 + 1, none⟩ (.int .i64 Y)).setCell ⟨gg, p * 5 + 2, none⟩ (.int .i64 (1 + x9))).setCell ⟨gg, p * 5 + 3, none⟩ (.int .i64 PH)).setCell ⟨gg, p * 5 + 4, none⟩ (.int .i64 CC)) = v) := ⟨_, rfl⟩
              have hacc5 : Acc u5 lo 44 5 (.slice (some ⟨gg, 0, none⟩) ps.length c) (ps.set p ⟨X, Y, (1 + x9), PH, CC⟩) patchC := by
                have hx0 : ps[p]? = some (⟨X, Y, PW, PH, CC⟩ : Patch) := HY.out
                have hpl : p < ps.length := (List.getElem?_eq_some_iff.1 hx0).1
                have s0 := (Acc.put hacc4 patchC_len (p := p) (j := 0) (x := ⟨X, Y, PW, PH, CC⟩) (y := ⟨X, Y, PW, PH, CC⟩) (u := .int .i64 X) hx0 (by omega) rfl).1
                have hx1 : (ps.set p (⟨X, Y, PW, PH, CC⟩ : Patch))[p]? = some (⟨X, Y, PW, PH, CC⟩ : Patch) := by rw [List.getElem?_set_self (by first | omega | (simp; omega))]
                rw [show (ps).length = (ps.set p (⟨X, Y, PW, PH, CC⟩ : Patch)).length by simp] at s0
                have s1 := (Acc.put s0 patchC_len (p := p) (j := 1) (x := ⟨X, Y, PW, PH, CC⟩) (y := ⟨X, Y, PW, PH, CC⟩) (u := .int .i64 Y) hx1 (by omega) rfl).1
                have hx2 : ((ps.set p (⟨X, Y, PW, PH, CC⟩ : Patch)).set p (⟨X, Y, PW, PH, CC⟩ : Patch))[p]? = some (⟨X, Y, PW, PH, CC⟩ : Patch) := by rw [List.getElem?_set_self (by first | omega | (simp; omega))]
                rw [show ((ps.set p (⟨X, Y, PW, PH, CC⟩ : Patch))).length = ((ps.set p (⟨X, Y, PW, PH, CC⟩ : Patch)).set p (⟨X, Y, PW, PH, CC⟩ : Patch)).length by simp] at s1
                have s2 := (Acc.put s1 patchC_len (p := p) (j := 2) (x := ⟨X, Y, PW, PH, CC⟩) (y := ⟨X, Y, (1 + x9), PH, CC⟩) (u := .int .i64 (1 + x9)) hx2 (by omega) rfl).1
                have hx3 : (((ps.set p (⟨X, Y, PW, PH, CC⟩ : Patch)).set p (⟨X, Y, PW, PH, CC⟩ : Patch)).set p (⟨X, Y, (1 + x9), PH, CC⟩ : Patch))[p]? = some (⟨X, Y, (1 + x9), PH, CC⟩ : Patch) := by rw [List.getElem?_set_self (by first | omega | (simp; omega))]
                rw [show (((ps.set p (⟨X, Y, PW, PH, CC⟩ : Patch)).set p (⟨X, Y, PW, PH, CC⟩ : Patch))).length = (((ps.set p (⟨X, Y, PW, PH, CC⟩ : Patch)).set p (⟨X, Y, PW, PH, CC⟩ : Patch)).set p (⟨X, Y, (1 + x9), PH, CC⟩ : Patch)).length by simp] at s2
                have s3 := (Acc.put s2 patchC_len (p := p) (j := 3) (x := ⟨X, Y, (1 + x9), PH, CC⟩) (y := ⟨X, Y, (1 + x9), PH, CC⟩) (u := .int .i64 PH) hx3 (by omega) rfl).1
                have hx4 : ((((ps.set p (⟨X, Y, PW, PH, CC⟩ : Patch)).set p (⟨X, Y, PW, PH, CC⟩ : Patch)).set p (⟨X, Y, (1 + x9), PH, CC⟩ : Patch)).set p (⟨X, Y, (1 + x9), PH, CC⟩ : Patch))[p]? = some (⟨X, Y, (1 + x9), PH, CC⟩ : Patch) := by rw [List.getElem?_set_self (by first | omega | (simp; omega))]
                rw [show ((((ps.set p (⟨X, Y, PW, PH, CC⟩ : Patch)).set p (⟨X, Y, PW, PH, CC⟩ : Patch)).set p (⟨X, Y, (1 + x9), PH, CC⟩ : Patch))).length = ((((ps.set p (⟨X, Y, PW, PH, CC⟩ : Patch)).set p (⟨X, Y, PW, PH, CC⟩ : Patch)).set p (⟨X, Y, (1 + x9), PH, CC⟩ : Patch)).set p (⟨X, Y, (1 + x9), PH, CC⟩ : Patch)).length by simp] at s3
                have s4 := (Acc.put s3 patchC_len (p := p) (j := 4) (x := ⟨X, Y, (1 + x9), PH, CC⟩) (y := ⟨X, Y, (1 + x9), PH, CC⟩) (u := .int .i64 CC) hx4 (by omega) rfl).1
                simp only [List.set_set, List.length_set, Nat.add_zero] at s4
                rw [hu5.out] at s4
                exact s4
              have far5 : ∀ b, b ≠ gg → u5.heap[b]? = u4.heap[b]? := fun b b1 => by rw [← hu5.out, row_far _ b1, row_far _ b1, row_far _ b1, row_far _ b1, row_far _ b1]
              have q5_ := (far5 j3 (by omega)).trans q4
              have rr5_ := (far5 r2 (by omega)).trans rr4
              have rq5 := (far5 jq (by omega)).trans rq4
              have hC5_ : Cur W0 u5 g A n xs := by rw [← hu5.out]; exact ((((hC4.grow (grown_at _ gg _ _) (fun e => by have := Option.some.inj e; omega) (fun q e => by have := Option.some.inj e; have := hr2.out; omega)).grow (grown_at _ gg _ _) (fun e => by have := Option.some.inj e; omega) (fun q e => by have := Option.some.inj e; have := hr2.out; omega)).grow (grown_at _ gg _ _) (fun e => by have := Option.some.inj e; omega) (fun q e => by have := Option.some.inj e; have := hr2.out; omega)).grow (grown_at _ gg _ _) (fun e => by have := Option.some.inj e; omega) (fun q e => by have := Option.some.inj e; have := hr2.out; omega)).grow (grown_at _ gg _ _) (fun e => by have := Option.some.inj e; omega) (fun q e => by have := Option.some.inj e; have := hr2.out; omega)
              have hlz5_ : lo ≤ u5.heap.size := by rw [← hu5.out, set_size, set_size, set_size, set_size, set_size]; exact hlz4
              have ta0 : wt.cell? ⟨jq, 0, none⟩ = some (.int .i64 (X + (1 + x9))) := by rw [cell_of_row _ _ _ _ _ _ rqt]; rfl
              have ta1 : wt.cell? ⟨jq, 1, none⟩ = some (.int .i64 Y) := by rw [cell_of_row _ _ _ _ _ _ rqt]; rfl
              have ta2 : wt.cell? ⟨jq, 2, none⟩ = some (.int .i64 (PW - (1 + x9))) := by rw [cell_of_row _ _ _ _ _ _ rqt]; rfl
              have ta3 : wt.cell? ⟨jq, 3, none⟩ = some (.int .i64 PH) := by rw [cell_of_row _ _ _ _ _ _ rqt]; rfl
              have ta4 : wt.cell? ⟨jq, 4, none⟩ = some (.int .i64 CC) := by rw [cell_of_row _ _ _ _ _ _ rqt]; rfl
              have fta4 : wt.frozen? ⟨jq, 4, none⟩ = false := frozen_of_row _ _ _ _ _ rqt
              have tb0 : u4.cell? ⟨jp, 0, none⟩ = some (.int .i64 X) := by rw [cell_of_row _ _ _ _ _ _ rp4]; rfl
              have tb1 : u4.cell? ⟨jp, 1, none⟩ = some (.int .i64 Y) := by rw [cell_of_row _ _ _ _ _ _ rp4]; rfl
              have tb2 : u4.cell? ⟨jp, 2, none⟩ = some (.int .i64 (1 + x9)) := by rw [cell_of_row _ _ _ _ _ _ rp4]; rfl
              have tb3 : u4.cell? ⟨jp, 3, none⟩ = some (.int .i64 PH) := by rw [cell_of_row _ _ _ _ _ _ rp4]; rfl
              have tb4 : u4.cell? ⟨jp, 4, none⟩ = some (.int .i64 CC) := by rw [cell_of_row _ _ _ _ _ _ rp4]; rfl
              have tc0 : u4.cell? ⟨j3, 0, none⟩ = some (.int .i64 3) := by rw [cell_of_row _ _ _ _ _ _ q4]; rfl
              have tc1 : u4.cell? ⟨j3, 1, none⟩ = some (.int .i64 3) := by rw [cell_of_row _ _ _ _ _ _ q4]; rfl
              have tc2 : u4.cell? ⟨j3, 2, none⟩ = some (.slice (some ⟨gg, 0, none⟩) L c) := by rw [cell_of_row _ _ _ _ _ _ q4]; rfl
              have td0 : u5.cell? ⟨jq, 0, none⟩ = some (.int .i64 (X + (1 + x9))) := by rw [cell_of_row _ _ _ _ _ _ rq5]; rfl
              have td1 : u5.cell? ⟨jq, 1, none⟩ = some (.int .i64 Y) := by rw [cell_of_row _ _ _ _ _ _ rq5]; rfl
              have td2 : u5.cell? ⟨jq, 2, none⟩ = some (.int .i64 (PW - (1 + x9))) := by rw [cell_of_row _ _ _ _ _ _ rq5]; rfl
              have td3 : u5.cell? ⟨jq, 3, none⟩ = some (.int .i64 PH) := by rw [cell_of_row _ _ _ _ _ _ rq5]; rfl
              have td4 : u5.cell? ⟨jq, 4, none⟩ = some (.int .i64 x10) := by rw [cell_of_row _ _ _ _ _ _ rq5]; rfl
              have te0 : u5.cell? ⟨j3, 0, none⟩ = some (.int .i64 3) := by rw [cell_of_row _ _ _ _ _ _ q5_]; rfl
              have te1 : u5.cell? ⟨j3, 1, none⟩ = some (.int .i64 3) := by rw [cell_of_row _ _ _ _ _ _ q5_]; rfl
              have te2 : u5.cell? ⟨j3, 2, none⟩ = some (.slice (some ⟨gg, 0, none⟩) L c) := by rw [cell_of_row _ _ _ _ _ _ q5_]; rfl
              have hpI : (p : Int) < (L : Int) := by omega
              have HOK2 := Lib.hid (cut_x hok.out HY.out (show ps.length < 12 by have := HLEN.out; omega) (a := 1 + x9) (c2 := x10) (by omega) (by omega) (by omega) (by omega))
              have hlen5 : (ps.set p ⟨X, Y, (1 + x9), PH, CC⟩).length = L := by rw [List.length_set]; exact HLEN.out
              rw [HLEN.out] at hacc5
              have hln5 : (ps.set p ⟨X, Y, (1 + x9), PH, CC⟩).length + 1 ≤ 4294967296 := by omega
              have HQ5 := Lib.hid q5_
              have HLL := Lib.hid hlen5
              have HRR := Lib.hid rr5_
              have HC5 := Lib.hid hC5_
              clear rq4 far4 rp4 q4 rr4 hacc4 hC4 hlz4 rpt rqt qt rrt hacct hCt hlzt far5 rq5 q5_ hlen5 rr5_ hC5_ hjp7 hjqp svq
              go_wp2_with (first | rw [hu4.out] | rw [hu5.out] | (at_builtin; refine wpList_acc1 rfl _ _ 28 rfl lo 44 (.agg #[.int .i64 0, .int .i64 0, .int .i64 0, .int .i64 0, .int .i64 0]) 5 40 Try.underlying28 infoPatch rfl (by omega) _ (ps.set p ⟨X, Y, (1 + x9), PH, CC⟩) patchC ⟨X + (1 + x9), Y, PW - (1 + x9), PH, x10⟩ rfl hacc5 _ _ rfl _ rfl (by simp) rfl (by simp [patchC, Value.oneCell']) hln5 (by omega) hlz5_ ?_; intro v7 w7_ hacc7 hgrow7 hat7; have hch7 : ∀ b, b < lo → w7_.heap[b]? = u5.heap[b]? := fun b hb => hgrow7.block b (by omega) (fun e => by have := (hacc5.row e.symm).1; omega); have f7 : w7_.frozen? ⟨j3, 2, none⟩ = false := frozen_of_row _ _ _ _ _ ((hch7 j3 hjl).trans HQ5.out); have c7 := cell_blk te2 (hch7 j3 hjl); obtain ⟨G7, L7, c7', e7⟩ : ∃ (G L : Nat) (cc : Nat), v7 = .slice (some ⟨G, 0, none⟩) L cc ∧ L = (ps.set p ⟨X, Y, (1 + x9), PH, CC⟩).length + 1 := (by obtain ⟨G, cc, ev, _⟩ := hacc7.cells_at patchC_len (p := (ps.set p ⟨X, Y, (1 + x9), PH, CC⟩).length) (x := ⟨X + (1 + x9), Y, PW - (1 + x9), PH, x10⟩) List.getElem?_concat_length; exact ⟨G, _, cc, ev, List.length_append⟩); obtain ⟨e7, e8⟩ := e7; have E7 := Lib.hid e7; have E8 := Lib.hid e8; rw [e7]; clear e7 e8))
              go_roundw
              case rel =>
                have q9 := row_set (o := 2) (.slice (some ⟨G7, 0, none⟩) L7 c7') ((hch7 j3 hjl).trans HQ5.out)
                rw [E7.out] at hacc7
                have hacc9 := acc_low hacc7 hjl (o := 2) (.slice (some ⟨G7, 0, none⟩) L7 c7')
                have rr9 := (row_far (w := w7_) (b := j3) (o := 2) (.slice (some ⟨G7, 0, none⟩) L7 c7') (show r2 ≠ j3 by omega)).trans ((hch7 r2 (by omega)).trans HRR.out)
                have hcr : W0.heap.size ≤ r2 := by have := hr2.out; omega
                have hC9 := (HC5.out.grow hgrow7 (fun e => by have := (hacc5.row e).1; omega) (fun q hq => by have := (hacc5.row hq).1; omega)).grow (grown_at _ j3 2 (.slice (some ⟨G7, 0, none⟩) L7 c7')) (fun e => by have := Option.some.inj e; omega) (fun q e => by have := Option.some.inj e; omega)
                exact ⟨k + 1, L7, c7', G7, _, HKM.out, by go_num, q9, hacc9, by rw [List.length_append, E8.out]; rfl, HOK2.out, rr9, hC9, by rw [set_size]; exact Nat.le_trans hlz5_ hgrow7.size⟩
              case measure => have := HKM.out; simp [intOf]; omega
            · have hW2 := Int.not_lt.1 hW
              by_cases hH : 1 < PH
              · skip
                go_wp2_with fail
                refine (l01Below_any W0 g A n xs (PH - 1) _ hC8 (by omega)).mono ?_
                rintro e w9 ⟨x9, rfl, hx9, hC9, ho9⟩
                have hx90 := hx9.1
                have hx91 := hx9.2.1 (by omega)
                obtain ⟨hjp7, hjqp, svq⟩ := HJ.out
                have q9 := only_cell' q8 ho9 (by omega)
                have rr9 := only_cell' rr8 ho9 (by omega)
                have rp9 := only_cell' rp8 ho9 (by omega)
                have rq9 := only_cell' rq8 ho9 (by omega)
                have hacc9 := hacc8.only ho9 (by omega)
                have hlz9 : lo ≤ w9.heap.size := Nat.le_trans hlz8 ho9.size
                clear hx9 ho9 q8 rr8 rp8 rq8 hacc8 hlz8 hC8 hsz8 p0 q_0 p1 q_1 p2 q_2 p3 q_3 p4 q_4
                obtain ⟨u1, hu1⟩ : ∃ v, Hid (w9.setCell ⟨jq, 1, none⟩ (.int .i64 (Y + (1 + x9))) = v) := ⟨_, rfl⟩
                obtain ⟨u2, hu2⟩ : ∃ v, Hid (u1.setCell ⟨jq, 3, none⟩ (.int .i64 (PH - (1 + x9))) = v) := ⟨_, rfl⟩
                obtain ⟨u3, hu3⟩ : ∃ v, Hid (u2.setCell ⟨jp, 3, none⟩ (.int .i64 (1 + x9)) = v) := ⟨_, rfl⟩
                have rq1 : u1.heap[jq]? = some (.cells #[.int .i64 X, .int .i64 (Y + (1 + x9)), .int .i64 PW, .int .i64 PH, .int .i64 CC] 44 (0, 0)) := by rw [← hu1.out]; exact row_set _ rq9
                have rq2 : u2.heap[jq]? = some (.cells #[.int .i64 X, .int .i64 (Y + (1 + x9)), .int .i64 PW, .int .i64 (PH - (1 + x9)), .int .i64 CC] 44 (0, 0)) := by rw [← hu2.out]; exact row_set _ rq1
                have rp1 : u1.heap[jp]? = some (.cells #[.int .i64 X, .int .i64 Y, .int .i64 PW, .int .i64 PH, .int .i64 CC] 44 (0, 0)) := by rw [← hu1.out, row_far _ (by omega)]; exact rp9
                have rp2 : u2.heap[jp]? = some (.cells #[.int .i64 X, .int .i64 Y, .int .i64 PW, .int .i64 PH, .int .i64 CC] 44 (0, 0)) := by rw [← hu2.out, row_far _ (by omega)]; exact rp1
                have rp3 : u3.heap[jp]? = some (.cells #[.int .i64 X, .int .i64 Y, .int .i64 PW, .int .i64 (1 + x9), .int .i64 CC] 44 (0, 0)) := by rw [← hu3.out]; exact row_set _ rp2
                have rq3 : u3.heap[jq]? = some (.cells #[.int .i64 X, .int .i64 (Y + (1 + x9)), .int .i64 PW, .int .i64 (PH - (1 + x9)), .int .i64 CC] 44 (0, 0)) := by rw [← hu3.out, row_far _ (by omega)]; exact rq2
                have far3 : ∀ b, b ≠ jq → b ≠ jp → u3.heap[b]? = w9.heap[b]? := fun b b1 b2 => by rw [← hu3.out, row_far _ b2, ← hu2.out, row_far _ b1, ← hu1.out, row_far _ b1]
                have q3_ := (far3 j3 (by omega) (by omega)).trans q9
                have rr3_ := (far3 r2 (by omega) (by omega)).trans rr9
                have sz3 : u3.heap.size = w9.heap.size := by rw [← hu3.out, set_size, ← hu2.out, set_size, ← hu1.out, set_size]
                have hacc3_ : Acc u3 lo 44 5 (.slice (some ⟨gg, 0, none⟩) L c) ps patchC := by
                  have e1 : Acc u1 lo 44 5 (.slice (some ⟨gg, 0, none⟩) L c) ps patchC := by rw [← hu1.out]; exact hacc9.kept (grown_at _ jq _ _) (fun q hq e => by have h1 : gg = q := Option.some.inj hq; have h2 := Option.some.inj e; omega)
                  have e2 : Acc u2 lo 44 5 (.slice (some ⟨gg, 0, none⟩) L c) ps patchC := by rw [← hu2.out]; exact e1.kept (grown_at _ jq _ _) (fun q hq e => by have h1 : gg = q := Option.some.inj hq; have h2 := Option.some.inj e; omega)
                  rw [← hu3.out]; exact e2.kept (grown_at _ jp _ _) (fun q hq e => by have h1 : gg = q := Option.some.inj hq; have h2 := Option.some.inj e; omega)
                have hC3_ : Cur W0 u3 g A n xs := by
                  have e1 : Cur W0 u1 g A n xs := by rw [← hu1.out]; exact hC9.grow (grown_at _ jq _ _) (fun e => by have := Option.some.inj e; omega) (fun q e => by have := Option.some.inj e; have := hr2.out; omega)
                  have e2 : Cur W0 u2 g A n xs := by rw [← hu2.out]; exact e1.grow (grown_at _ jq _ _) (fun e => by have := Option.some.inj e; omega) (fun q e => by have := Option.some.inj e; have := hr2.out; omega)
                  rw [← hu3.out]; exact e2.grow (grown_at _ jp _ _) (fun e => by have := Option.some.inj e; omega) (fun q e => by have := Option.some.inj e; have := hr2.out; omega)
                have pa0 : w9.cell? ⟨jp, 0, none⟩ = some (.int .i64 X) := by rw [cell_of_row _ _ _ _ _ _ rp9]; rfl
                have pa1 : w9.cell? ⟨jp, 1, none⟩ = some (.int .i64 Y) := by rw [cell_of_row _ _ _ _ _ _ rp9]; rfl
                have pa2 : w9.cell? ⟨jp, 2, none⟩ = some (.int .i64 PW) := by rw [cell_of_row _ _ _ _ _ _ rp9]; rfl
                have pa3 : w9.cell? ⟨jp, 3, none⟩ = some (.int .i64 PH) := by rw [cell_of_row _ _ _ _ _ _ rp9]; rfl
                have pa4 : w9.cell? ⟨jp, 4, none⟩ = some (.int .i64 CC) := by rw [cell_of_row _ _ _ _ _ _ rp9]; rfl
                have qa0 : w9.cell? ⟨jq, 0, none⟩ = some (.int .i64 X) := by rw [cell_of_row _ _ _ _ _ _ rq9]; rfl
                have qa1 : w9.cell? ⟨jq, 1, none⟩ = some (.int .i64 Y) := by rw [cell_of_row _ _ _ _ _ _ rq9]; rfl
                have qa2 : w9.cell? ⟨jq, 2, none⟩ = some (.int .i64 PW) := by rw [cell_of_row _ _ _ _ _ _ rq9]; rfl
                have qa3 : w9.cell? ⟨jq, 3, none⟩ = some (.int .i64 PH) := by rw [cell_of_row _ _ _ _ _ _ rq9]; rfl
                have qa4 : w9.cell? ⟨jq, 4, none⟩ = some (.int .i64 CC) := by rw [cell_of_row _ _ _ _ _ _ rq9]; rfl
                have fqa1 : w9.frozen? ⟨jq, 1, none⟩ = false := frozen_of_row _ _ _ _ _ rq9
                have pb0 : u1.cell? ⟨jp, 0, none⟩ = some (.int .i64 X) := by rw [cell_of_row _ _ _ _ _ _ rp1]; rfl
                have pb1 : u1.cell? ⟨jp, 1, none⟩ = some (.int .i64 Y) := by rw [cell_of_row _ _ _ _ _ _ rp1]; rfl
                have pb2 : u1.cell? ⟨jp, 2, none⟩ = some (.int .i64 PW) := by rw [cell_of_row _ _ _ _ _ _ rp1]; rfl
                have pb3 : u1.cell? ⟨jp, 3, none⟩ = some (.int .i64 PH) := by rw [cell_of_row _ _ _ _ _ _ rp1]; rfl
                have pb4 : u1.cell? ⟨jp, 4, none⟩ = some (.int .i64 CC) := by rw [cell_of_row _ _ _ _ _ _ rp1]; rfl
                have qb0 : u1.cell? ⟨jq, 0, none⟩ = some (.int .i64 X) := by rw [cell_of_row _ _ _ _ _ _ rq1]; rfl
                have qb1 : u1.cell? ⟨jq, 1, none⟩ = some (.int .i64 (Y + (1 + x9))) := by rw [cell_of_row _ _ _ _ _ _ rq1]; rfl
                have qb2 : u1.cell? ⟨jq, 2, none⟩ = some (.int .i64 PW) := by rw [cell_of_row _ _ _ _ _ _ rq1]; rfl
                have qb3 : u1.cell? ⟨jq, 3, none⟩ = some (.int .i64 PH) := by rw [cell_of_row _ _ _ _ _ _ rq1]; rfl
                have qb4 : u1.cell? ⟨jq, 4, none⟩ = some (.int .i64 CC) := by rw [cell_of_row _ _ _ _ _ _ rq1]; rfl
                have fqb3 : u1.frozen? ⟨jq, 3, none⟩ = false := frozen_of_row _ _ _ _ _ rq1
                have pc0 : u2.cell? ⟨jp, 0, none⟩ = some (.int .i64 X) := by rw [cell_of_row _ _ _ _ _ _ rp2]; rfl
                have pc1 : u2.cell? ⟨jp, 1, none⟩ = some (.int .i64 Y) := by rw [cell_of_row _ _ _ _ _ _ rp2]; rfl
                have pc2 : u2.cell? ⟨jp, 2, none⟩ = some (.int .i64 PW) := by rw [cell_of_row _ _ _ _ _ _ rp2]; rfl
                have pc3 : u2.cell? ⟨jp, 3, none⟩ = some (.int .i64 PH) := by rw [cell_of_row _ _ _ _ _ _ rp2]; rfl
                have pc4 : u2.cell? ⟨jp, 4, none⟩ = some (.int .i64 CC) := by rw [cell_of_row _ _ _ _ _ _ rp2]; rfl
                have fpc3 : u2.frozen? ⟨jp, 3, none⟩ = false := frozen_of_row _ _ _ _ _ rp2
                have hs1 : IntKind.i64.wrap (Y + (1 + x9)) = Y + (1 + x9) := by simp (disch := omega) only [IntWalk.i64_in]
                have hs2 : IntKind.i64.wrap (PH - (1 + x9)) = PH - (1 + x9) := by simp (disch := omega) only [IntWalk.i64_in]
                have Hrp3 := Lib.hid rp3
                have Hrq3 := Lib.hid rq3
                have Hq3_ := Lib.hid q3_
                have Hrr3_ := Lib.hid rr3_
                have Hhacc3_ := Lib.hid hacc3_
                have Hsz3 := Lib.hid sz3
                have HLZ := Lib.hid hlz9
                clear rp3 rq3 q3_ rr3_ hacc3_ sz3 rq1 rq2 rp1 rp2 rp9 rq9 q9 rr9 hacc9 hlz9 hC9 far3 hjp7 hjqp svq
                go_wp2_with (first | rw [hu1.out] | rw [hu2.out] | rw [hu3.out])
                refine (l01Below_any W0 g A n xs 5 _ hC3_ (by omega)).mono ?_
                rintro e wt ⟨x10, rfl, hx10_, hCt, hot⟩
                have hc0 := hx10_.1
                have hc1 := hx10_.2.1 (by omega)
                obtain ⟨hjp7, hjqp, svq⟩ := HJ.out
                have qt := only_cell' Hq3_.out hot (by omega)
                have rrt := only_cell' Hrr3_.out hot (by omega)
                have rpt := only_cell' Hrp3.out hot (by omega)
                have rqt := only_cell' Hrq3.out hot (by omega)
                have hacct := Hhacc3_.out.only hot (by omega)
                have hlzt : lo ≤ wt.heap.size := by have h1 := HLZ.out; have h2 := hot.size; have h3 := Hsz3.out; omega
                clear hC3_ hx10_ hot pa0 qa0 pb0 qb0 pc0 pa1 qa1 pb1 qb1 pc1 pa2 qa2 pb2 qb2 pc2 pa3 qa3 pb3 qb3 pc3 pa4 qa4 pb4 qb4 pc4 fqa1 fqb3 fpc3
                obtain ⟨u4, hu4⟩ : ∃ v, Hid (wt.setCell ⟨jq, 4, none⟩ (.int .i64 x10) = v) := ⟨_, rfl⟩
                have rq4 : u4.heap[jq]? = some (.cells #[.int .i64 X, .int .i64 (Y + (1 + x9)), .int .i64 PW, .int .i64 (PH - (1 + x9)), .int .i64 x10] 44 (0, 0)) := by rw [← hu4.out]; exact row_set _ rqt
                have far4 : ∀ b, b ≠ jq → u4.heap[b]? = wt.heap[b]? := fun b b1 => by rw [← hu4.out, row_far _ b1]
                have rp4 := (far4 jp (by omega)).trans rpt
                have q4 := (far4 j3 (by omega)).trans qt
                have rr4 := (far4 r2 (by omega)).trans rrt
                have hacc4 : Acc u4 lo 44 5 (.slice (some ⟨gg, 0, none⟩) L c) ps patchC := by rw [← hu4.out]; exact hacct.kept (grown_at _ jq _ _) (fun q hq e => by have h1 : gg = q := Option.some.inj hq; have h2 := Option.some.inj e; omega)
                have hC4 : Cur W0 u4 g A n xs := by rw [← hu4.out]; exact hCt.grow (grown_at _ jq _ _) (fun e => by have := Option.some.inj e; omega) (fun q e => by have := Option.some.inj e; have := hr2.out; omega)
                have hlz4 : lo ≤ u4.heap.size := by rw [← hu4.out, set_size]; exact hlzt
                rw [← HLEN.out] at hacc4
                obtain ⟨gb, cgb, ev, _, _, hcB, hfB⟩ := hacc4.cells_at patchC_len HY.out
                injection ev with ev1 ev3 ev4
                injection ev1 with ev1
                injection ev1 with ev1 _ _
                subst ev1
                clear ev3 ev4
                have yb0 := hcB 0 _ rfl
                have fb0 := hfB (p * 5 + 0)
                have yb1 := hcB 1 _ rfl
                have fb1 := hfB (p * 5 + 1)
                have yb2 := hcB 2 _ rfl
                have fb2 := hfB (p * 5 + 2)
                have yb3 := hcB 3 _ rfl
                have fb3 := hfB (p * 5 + 3)
                have yb4 := hcB 4 _ rfl
                have fb4 := hfB (p * 5 + 4)
                rw [Nat.add_zero] at yb0 fb0
                clear hcB hfB
                obtain ⟨u5, hu5⟩ : ∃ v, Hid ((((((u4.setCell ⟨gg, p * 5, none⟩ (.int .i64 X)).setCell ⟨gg, p * 5 + 1, none⟩ (.int .i64 Y)).setCell ⟨gg, p * 5 + 2, none⟩ (.int .i64 PW)).setCell ⟨gg, p * 5 + 3, none⟩ (.int .i64 (1 + x9))).setCell ⟨gg, p * 5 + 4, none⟩ (.int .i64 CC)) = v) := ⟨_, rfl⟩
                have hacc5 : Acc u5 lo 44 5 (.slice (some ⟨gg, 0, none⟩) ps.length c) (ps.set p ⟨X, Y, PW, (1 + x9), CC⟩) patchC := by
                  have hx0 : ps[p]? = some (⟨X, Y, PW, PH, CC⟩ : Patch) := HY.out
                  have hpl : p < ps.length := (List.getElem?_eq_some_iff.1 hx0).1
                  have s0 := (Acc.put hacc4 patchC_len (p := p) (j := 0) (x := ⟨X, Y, PW, PH, CC⟩) (y := ⟨X, Y, PW, PH, CC⟩) (u := .int .i64 X) hx0 (by omega) rfl).1
                  have hx1 : (ps.set p (⟨X, Y, PW, PH, CC⟩ : Patch))[p]? = some (⟨X, Y, PW, PH, CC⟩ : Patch) := by rw [List.getElem?_set_self (by first | omega | (simp; omega))]
                  rw [show (ps).length = (ps.set p (⟨X, Y, PW, PH, CC⟩ : Patch)).length by simp] at s0
                  have s1 := (Acc.put s0 patchC_len (p := p) (j := 1) (x := ⟨X, Y, PW, PH, CC⟩) (y := ⟨X, Y, PW, PH, CC⟩) (u := .int .i64 Y) hx1 (by omega) rfl).1
                  have hx2 : ((ps.set p (⟨X, Y, PW, PH, CC⟩ : Patch)).set p (⟨X, Y, PW, PH, CC⟩ : Patch))[p]? = some (⟨X, Y, PW, PH, CC⟩ : Patch) := by rw [List.getElem?_set_self (by first | omega | (simp; omega))]
                  rw [show ((ps.set p (⟨X, Y, PW, PH, CC⟩ : Patch))).length = ((ps.set p (⟨X, Y, PW, PH, CC⟩ : Patch)).set p (⟨X, Y, PW, PH, CC⟩ : Patch)).length by simp] at s1
                  have s2 := (Acc.put s1 patchC_len (p := p) (j := 2) (x := ⟨X, Y, PW, PH, CC⟩) (y := ⟨X, Y, PW, PH, CC⟩) (u := .int .i64 PW) hx2 (by omega) rfl).1
                  have hx3 : (((ps.set p (⟨X, Y, PW, PH, CC⟩ : Patch)).set p (⟨X, Y, PW, PH, CC⟩ : Patch)).set p (⟨X, Y, PW, PH, CC⟩ : Patch))[p]? = some (⟨X, Y, PW, PH, CC⟩ : Patch) := by rw [List.getElem?_set_self (by first | omega | (simp; omega))]
                  rw [show (((ps.set p (⟨X, Y, PW, PH, CC⟩ : Patch)).set p (⟨X, Y, PW, PH, CC⟩ : Patch))).length = (((ps.set p (⟨X, Y, PW, PH, CC⟩ : Patch)).set p (⟨X, Y, PW, PH, CC⟩ : Patch)).set p (⟨X, Y, PW, PH, CC⟩ : Patch)).length by simp] at s2
                  have s3 := (Acc.put s2 patchC_len (p := p) (j := 3) (x := ⟨X, Y, PW, PH, CC⟩) (y := ⟨X, Y, PW, (1 + x9), CC⟩) (u := .int .i64 (1 + x9)) hx3 (by omega) rfl).1
                  have hx4 : ((((ps.set p (⟨X, Y, PW, PH, CC⟩ : Patch)).set p (⟨X, Y, PW, PH, CC⟩ : Patch)).set p (⟨X, Y, PW, PH, CC⟩ : Patch)).set p (⟨X, Y, PW, (1 + x9), CC⟩ : Patch))[p]? = some (⟨X, Y, PW, (1 + x9), CC⟩ : Patch) := by rw [List.getElem?_set_self (by first | omega | (simp; omega))]
                  rw [show ((((ps.set p (⟨X, Y, PW, PH, CC⟩ : Patch)).set p (⟨X, Y, PW, PH, CC⟩ : Patch)).set p (⟨X, Y, PW, PH, CC⟩ : Patch))).length = ((((ps.set p (⟨X, Y, PW, PH, CC⟩ : Patch)).set p (⟨X, Y, PW, PH, CC⟩ : Patch)).set p (⟨X, Y, PW, PH, CC⟩ : Patch)).set p (⟨X, Y, PW, (1 + x9), CC⟩ : Patch)).length by simp] at s3
                  have s4 := (Acc.put s3 patchC_len (p := p) (j := 4) (x := ⟨X, Y, PW, (1 + x9), CC⟩) (y := ⟨X, Y, PW, (1 + x9), CC⟩) (u := .int .i64 CC) hx4 (by omega) rfl).1
                  simp only [List.set_set, List.length_set, Nat.add_zero] at s4
                  rw [hu5.out] at s4
                  exact s4
                have far5 : ∀ b, b ≠ gg → u5.heap[b]? = u4.heap[b]? := fun b b1 => by rw [← hu5.out, row_far _ b1, row_far _ b1, row_far _ b1, row_far _ b1, row_far _ b1]
                have q5_ := (far5 j3 (by omega)).trans q4
                have rr5_ := (far5 r2 (by omega)).trans rr4
                have rq5 := (far5 jq (by omega)).trans rq4
                have hC5_ : Cur W0 u5 g A n xs := by rw [← hu5.out]; exact ((((hC4.grow (grown_at _ gg _ _) (fun e => by have := Option.some.inj e; omega) (fun q e => by have := Option.some.inj e; have := hr2.out; omega)).grow (grown_at _ gg _ _) (fun e => by have := Option.some.inj e; omega) (fun q e => by have := Option.some.inj e; have := hr2.out; omega)).grow (grown_at _ gg _ _) (fun e => by have := Option.some.inj e; omega) (fun q e => by have := Option.some.inj e; have := hr2.out; omega)).grow (grown_at _ gg _ _) (fun e => by have := Option.some.inj e; omega) (fun q e => by have := Option.some.inj e; have := hr2.out; omega)).grow (grown_at _ gg _ _) (fun e => by have := Option.some.inj e; omega) (fun q e => by have := Option.some.inj e; have := hr2.out; omega)
                have hlz5_ : lo ≤ u5.heap.size := by rw [← hu5.out, set_size, set_size, set_size, set_size, set_size]; exact hlz4
                have ta0 : wt.cell? ⟨jq, 0, none⟩ = some (.int .i64 X) := by rw [cell_of_row _ _ _ _ _ _ rqt]; rfl
                have ta1 : wt.cell? ⟨jq, 1, none⟩ = some (.int .i64 (Y + (1 + x9))) := by rw [cell_of_row _ _ _ _ _ _ rqt]; rfl
                have ta2 : wt.cell? ⟨jq, 2, none⟩ = some (.int .i64 PW) := by rw [cell_of_row _ _ _ _ _ _ rqt]; rfl
                have ta3 : wt.cell? ⟨jq, 3, none⟩ = some (.int .i64 (PH - (1 + x9))) := by rw [cell_of_row _ _ _ _ _ _ rqt]; rfl
                have ta4 : wt.cell? ⟨jq, 4, none⟩ = some (.int .i64 CC) := by rw [cell_of_row _ _ _ _ _ _ rqt]; rfl
                have fta4 : wt.frozen? ⟨jq, 4, none⟩ = false := frozen_of_row _ _ _ _ _ rqt
                have tb0 : u4.cell? ⟨jp, 0, none⟩ = some (.int .i64 X) := by rw [cell_of_row _ _ _ _ _ _ rp4]; rfl
                have tb1 : u4.cell? ⟨jp, 1, none⟩ = some (.int .i64 Y) := by rw [cell_of_row _ _ _ _ _ _ rp4]; rfl
                have tb2 : u4.cell? ⟨jp, 2, none⟩ = some (.int .i64 PW) := by rw [cell_of_row _ _ _ _ _ _ rp4]; rfl
                have tb3 : u4.cell? ⟨jp, 3, none⟩ = some (.int .i64 (1 + x9)) := by rw [cell_of_row _ _ _ _ _ _ rp4]; rfl
                have tb4 : u4.cell? ⟨jp, 4, none⟩ = some (.int .i64 CC) := by rw [cell_of_row _ _ _ _ _ _ rp4]; rfl
                have tc0 : u4.cell? ⟨j3, 0, none⟩ = some (.int .i64 3) := by rw [cell_of_row _ _ _ _ _ _ q4]; rfl
                have tc1 : u4.cell? ⟨j3, 1, none⟩ = some (.int .i64 3) := by rw [cell_of_row _ _ _ _ _ _ q4]; rfl
                have tc2 : u4.cell? ⟨j3, 2, none⟩ = some (.slice (some ⟨gg, 0, none⟩) L c) := by rw [cell_of_row _ _ _ _ _ _ q4]; rfl
                have td0 : u5.cell? ⟨jq, 0, none⟩ = some (.int .i64 X) := by rw [cell_of_row _ _ _ _ _ _ rq5]; rfl
                have td1 : u5.cell? ⟨jq, 1, none⟩ = some (.int .i64 (Y + (1 + x9))) := by rw [cell_of_row _ _ _ _ _ _ rq5]; rfl
                have td2 : u5.cell? ⟨jq, 2, none⟩ = some (.int .i64 PW) := by rw [cell_of_row _ _ _ _ _ _ rq5]; rfl
                have td3 : u5.cell? ⟨jq, 3, none⟩ = some (.int .i64 (PH - (1 + x9))) := by rw [cell_of_row _ _ _ _ _ _ rq5]; rfl
                have td4 : u5.cell? ⟨jq, 4, none⟩ = some (.int .i64 x10) := by rw [cell_of_row _ _ _ _ _ _ rq5]; rfl
                have te0 : u5.cell? ⟨j3, 0, none⟩ = some (.int .i64 3) := by rw [cell_of_row _ _ _ _ _ _ q5_]; rfl
                have te1 : u5.cell? ⟨j3, 1, none⟩ = some (.int .i64 3) := by rw [cell_of_row _ _ _ _ _ _ q5_]; rfl
                have te2 : u5.cell? ⟨j3, 2, none⟩ = some (.slice (some ⟨gg, 0, none⟩) L c) := by rw [cell_of_row _ _ _ _ _ _ q5_]; rfl
                have hpI : (p : Int) < (L : Int) := by omega
                have HOK2 := Lib.hid (cut_y hok.out HY.out (show ps.length < 12 by have := HLEN.out; omega) (a := 1 + x9) (c2 := x10) (by omega) (by omega) (by omega) (by omega))
                have hlen5 : (ps.set p ⟨X, Y, PW, (1 + x9), CC⟩).length = L := by rw [List.length_set]; exact HLEN.out
                rw [HLEN.out] at hacc5
                have hln5 : (ps.set p ⟨X, Y, PW, (1 + x9), CC⟩).length + 1 ≤ 4294967296 := by omega
                have HQ5 := Lib.hid q5_
                have HLL := Lib.hid hlen5
                have HRR := Lib.hid rr5_
                have HC5 := Lib.hid hC5_
                clear rq4 far4 rp4 q4 rr4 hacc4 hC4 hlz4 rpt rqt qt rrt hacct hCt hlzt far5 rq5 q5_ hlen5 rr5_ hC5_ hjp7 hjqp svq
                go_wp2_with (first | rw [hu4.out] | rw [hu5.out] | (at_builtin; refine wpList_acc1 rfl _ _ 28 rfl lo 44 (.agg #[.int .i64 0, .int .i64 0, .int .i64 0, .int .i64 0, .int .i64 0]) 5 40 Try.underlying28 infoPatch rfl (by omega) _ (ps.set p ⟨X, Y, PW, (1 + x9), CC⟩) patchC ⟨X, Y + (1 + x9), PW, PH - (1 + x9), x10⟩ rfl hacc5 _ _ rfl _ rfl (by simp) rfl (by simp [patchC, Value.oneCell']) hln5 (by omega) hlz5_ ?_; intro v7 w7_ hacc7 hgrow7 hat7; have hch7 : ∀ b, b < lo → w7_.heap[b]? = u5.heap[b]? := fun b hb => hgrow7.block b (by omega) (fun e => by have := (hacc5.row e.symm).1; omega); have f7 : w7_.frozen? ⟨j3, 2, none⟩ = false := frozen_of_row _ _ _ _ _ ((hch7 j3 hjl).trans HQ5.out); have c7 := cell_blk te2 (hch7 j3 hjl); obtain ⟨G7, L7, c7', e7⟩ : ∃ (G L : Nat) (cc : Nat), v7 = .slice (some ⟨G, 0, none⟩) L cc ∧ L = (ps.set p ⟨X, Y, PW, (1 + x9), CC⟩).length + 1 := (by obtain ⟨G, cc, ev, _⟩ := hacc7.cells_at patchC_len (p := (ps.set p ⟨X, Y, PW, (1 + x9), CC⟩).length) (x := ⟨X, Y + (1 + x9), PW, PH - (1 + x9), x10⟩) List.getElem?_concat_length; exact ⟨G, _, cc, ev, List.length_append⟩); obtain ⟨e7, e8⟩ := e7; have E7 := Lib.hid e7; have E8 := Lib.hid e8; rw [e7]; clear e7 e8))
                go_roundw
                case rel =>
                  have q9 := row_set (o := 2) (.slice (some ⟨G7, 0, none⟩) L7 c7') ((hch7 j3 hjl).trans HQ5.out)
                  rw [E7.out] at hacc7
                  have hacc9 := acc_low hacc7 hjl (o := 2) (.slice (some ⟨G7, 0, none⟩) L7 c7')
                  have rr9 := (row_far (w := w7_) (b := j3) (o := 2) (.slice (some ⟨G7, 0, none⟩) L7 c7') (show r2 ≠ j3 by omega)).trans ((hch7 r2 (by omega)).trans HRR.out)
                  have hcr : W0.heap.size ≤ r2 := by have := hr2.out; omega
                  have hC9 := (HC5.out.grow hgrow7 (fun e => by have := (hacc5.row e).1; omega) (fun q hq => by have := (hacc5.row hq).1; omega)).grow (grown_at _ j3 2 (.slice (some ⟨G7, 0, none⟩) L7 c7')) (fun e => by have := Option.some.inj e; omega) (fun q e => by have := Option.some.inj e; omega)
                  exact ⟨k + 1, L7, c7', G7, _, HKM.out, by go_num, q9, hacc9, by rw [List.length_append, E8.out]; rfl, HOK2.out, rr9, hC9, by rw [set_size]; exact Nat.le_trans hlz5_ hgrow7.size⟩
                case measure => have := HKM.out; simp [intOf]; omega
              · have hH2 := Int.not_lt.1 hH
                go_wp2_with fail
                go_roundw
                case rel => exact ⟨k + 1, L, c, gg, ps, HKM.out, by go_num, q8, hacc8, HLEN.out, hok, rr8, hC8, hlz8⟩
                case measure => have := HKM.out; simp [intOf]; omega
        · have hLI : ¬ (L : Int) < 12 := by omega
          have z0 : wr.cell? ⟨r2, 0, none⟩ = some (.int .i64 0) := by rw [cell_of_row _ _ _ _ _ _ rrr]; rfl
          have fz0 : wr.frozen? ⟨r2, 0, none⟩ = false := frozen_of_row _ _ _ _ _ rrr
          have z1 : wr.cell? ⟨r2, 1, none⟩ = some (.int .i64 0) := by rw [cell_of_row _ _ _ _ _ _ rrr]; rfl
          have fz1 : wr.frozen? ⟨r2, 1, none⟩ = false := frozen_of_row _ _ _ _ _ rrr
          have z2 : wr.cell? ⟨r2, 2, none⟩ = some (.slice none 0 0) := by rw [cell_of_row _ _ _ _ _ _ rrr]; rfl
          have fz2 : wr.frozen? ⟨r2, 2, none⟩ = false := frozen_of_row _ _ _ _ _ rrr
          have hlen := HLEN.out
          have hacc9 : Acc wr lo 44 5 (.slice (some ⟨gg, 0, none⟩) ps.length c) ps patchC := by rw [hlen]; exact hacc
          have HA9 := Lib.hid hacc9
          have HC9 := Lib.hid hCr
          have hr2l : r2 < lo := by omega
          have HHH := Lib.hid (And.intro hgr (And.intro hr2l (show W0.heap.size ≤ r2 by have := hr2.out; omega)))
          clear hacc9 hacc hlen hCr qr rrr
          go_wp2
          obtain ⟨h1, h2, h3⟩ := HHH.out
          have hcn : (some r2 : Option Nat) ≠ some g := fun e => by have := Option.some.inj e; omega
          have hcg : ∀ q, some r2 = some q → W0.heap.size ≤ q := fun q e => by have := Option.some.inj e; omega
          refine bodyPost_ret (v := .agg #[.int .i64 3, .int .i64 3, .slice (some ⟨gg, 0, none⟩) L c]) (by simp [results, Try.results80, go_sem, World.cell?_setCell_same', World.cell?_setCell_other, z0, z1, z2]) rfl ⟨3, 3, ps, _, _, _, rfl, hok.out, ?_, ((HC9.out.grow (grown_at _ r2 0 _) hcn hcg).grow (grown_at _ r2 1 _) hcn hcg).grow (grown_at _ r2 2 _) hcn hcg⟩
          have := acc_rd (acc_low (acc_low (acc_low HA9.out h2 (o := 0) (.int .i64 3)) h2 (o := 1) (.int .i64 3)) h2 (o := 2) (.slice (some ⟨gg, 0, none⟩) L c)) patchC_len
          rw [HLEN.out] at this
          exact this
      · have hkm : ¬ (k : Int) < (m : Int) := by omega
        have z0 : wr.cell? ⟨r2, 0, none⟩ = some (.int .i64 0) := by rw [cell_of_row _ _ _ _ _ _ rrr]; rfl
        have fz0 : wr.frozen? ⟨r2, 0, none⟩ = false := frozen_of_row _ _ _ _ _ rrr
        have z1 : wr.cell? ⟨r2, 1, none⟩ = some (.int .i64 0) := by rw [cell_of_row _ _ _ _ _ _ rrr]; rfl
        have fz1 : wr.frozen? ⟨r2, 1, none⟩ = false := frozen_of_row _ _ _ _ _ rrr
        have z2 : wr.cell? ⟨r2, 2, none⟩ = some (.slice none 0 0) := by rw [cell_of_row _ _ _ _ _ _ rrr]; rfl
        have fz2 : wr.frozen? ⟨r2, 2, none⟩ = false := frozen_of_row _ _ _ _ _ rrr
        have hlen := HLEN.out
        have hacc9 : Acc wr lo 44 5 (.slice (some ⟨gg, 0, none⟩) ps.length c) ps patchC := by rw [hlen]; exact hacc
        have HA9 := Lib.hid hacc9
        have HC9 := Lib.hid hCr
        have hr2l : r2 < lo := by omega
        have HHH := Lib.hid (And.intro hgr (And.intro hr2l (show W0.heap.size ≤ r2 by have := hr2.out; omega)))
        clear hacc9 hacc hlen hCr qr rrr
        go_wp2
        obtain ⟨h1, h2, h3⟩ := HHH.out
        have hcn : (some r2 : Option Nat) ≠ some g := fun e => by have := Option.some.inj e; omega
        have hcg : ∀ q, some r2 = some q → W0.heap.size ≤ q := fun q e => by have := Option.some.inj e; omega
        refine bodyPost_ret (v := .agg #[.int .i64 3, .int .i64 3, .slice (some ⟨gg, 0, none⟩) L c]) (by simp [results, Try.results80, go_sem, World.cell?_setCell_same', World.cell?_setCell_other, z0, z1, z2]) rfl ⟨3, 3, ps, _, _, _, rfl, hok.out, ?_, ((HC9.out.grow (grown_at _ r2 0 _) hcn hcg).grow (grown_at _ r2 1 _) hcn hcg).grow (grown_at _ r2 2 _) hcn hcg⟩
        have := acc_rd (acc_low (acc_low (acc_low HA9.out h2 (o := 0) (.int .i64 3)) h2 (o := 1) (.int .i64 3)) h2 (o := 2) (.slice (some ⟨gg, 0, none⟩) L c)) patchC_len
        rw [HLEN.out] at this
        exact this

end Go.Proofs.Ytmjdgplkcocgmaa
