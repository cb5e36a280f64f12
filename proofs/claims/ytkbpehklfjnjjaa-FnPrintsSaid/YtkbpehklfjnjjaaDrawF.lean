/-
  A drawn block, perhaps with something turned: what it holds is of no matter.
-/
import Derived.Test.YtkbpehklfjnjjaaDrawE
set_option linter.unusedVariables false
set_option linter.unusedSimpArgs false
namespace Go.Proofs.Ytkbpehklfjnjjaa
open Go.RowKit

/-- A slice that is read as a list, in blocks from lo on. -/
def RdIn {α : Type} (lo : Nat) (w : World) (A : Option Addr) (n sz : Nat) (xs : List α) (cells : α → List Value) : Prop :=
  xs.length = n ∧ (0 < n → ∃ b off, lo ≤ b ∧ A = some ⟨b, off, none⟩ ∧ b < w.heap.size ∧ ∀ (i : Nat) (x : α) (j : Nat) (u : Value), xs[i]? = some x → (cells x)[j]? = some u → w.cell? ⟨b, off + (i * sz + j), none⟩ = some u)
theorem RdIn.rd {α : Type} {lo : Nat} {w : World} {A : Option Addr} {n sz : Nat} {xs : List α} {cells : α → List Value} (h : RdIn lo w A n sz xs cells) : Rd w A n sz xs cells :=
  ⟨h.1, fun hn => by
    obtain ⟨b, off, _, h1, h2, h3⟩ := h.2 hn
    exact ⟨b, off, h1, h2, h3⟩⟩
theorem RdIn.only {α : Type} {lo l u : Nat} {w w' : World} {A : Option Addr} {n sz : Nat} {xs : List α} {cells : α → List Value} (h : RdIn lo w A n sz xs cells) (ho : Only l u w w') (hd : u ≤ lo) : RdIn lo w' A n sz xs cells :=
  ⟨h.1, fun hn => by
    obtain ⟨b, off, hl, h1, h2, h3⟩ := h.2 hn
    exact ⟨b, off, hl, h1, Nat.lt_of_lt_of_le h2 ho.size, fun i x j u' hx hu => cell_blk (h3 i x j u' hx hu) (ho.block b h2 (.inr (by omega)))⟩⟩
theorem RdIn.mono {α : Type} {lo lo' : Nat} {w : World} {A : Option Addr} {n sz : Nat} {xs : List α} {cells : α → List Value} (h : RdIn lo w A n sz xs cells) (hd : lo' ≤ lo) : RdIn lo' w A n sz xs cells :=
  ⟨h.1, fun hn => by
    obtain ⟨b, off, hl, h1, h2, h3⟩ := h.2 hn
    exact ⟨b, off, Nat.le_trans hd hl, h1, h2, h3⟩⟩
theorem RdIn.of_acc {α : Type} {lo : Nat} {w : World} {A : Option Addr} {n c sz : Nat} {e : TypeId} {xs : List α} {cells : α → List Value} (h : Acc w lo e sz (.slice A n c) xs cells) (hl : ∀ y, (cells y).length = sz) : RdIn lo w A n sz xs cells := by
  obtain ⟨A', c', ev, _, ho⟩ := h.own hl
  injection ev with e1 e2 e3
  subst e1 e2
  refine ⟨rfl, fun hn => ?_⟩
  obtain ⟨g, T, rfl, h1, h2, hP⟩ := ho.2 hn
  exact ⟨g, 0, h1, rfl, h2, fun i x j u hx hu => by
    rw [Nat.zero_add]
    exact hP.at_ (List.getElem?_eq_some_iff.1 hx).1 hx hu⟩
theorem RdIn.tail {α : Type} {lo sz G o : Nat} {w : World} {x : α} {xs : List α} {cells : α → List Value} (h : RdIn lo w (some ⟨G, o, none⟩) (xs.length + 1) sz (x :: xs) cells) : RdIn lo w (some ⟨G, o + sz, none⟩) xs.length sz xs cells := by
  refine ⟨rfl, fun hn => ?_⟩
  obtain ⟨b, off, hl, h1, h2, h3⟩ := h.2 (Nat.succ_pos _)
  injection h1 with h1
  injection h1 with h1 h4
  subst h1 h4
  refine ⟨G, o + sz, hl, rfl, h2, fun i y j u hy hu => ?_⟩
  have := h3 (i + 1) y j u (by simpa using hy) hu
  rw [show o + sz + (i * sz + j) = o + ((i + 1) * sz + j) by rw [Nat.add_mul]; omega]
  exact this

theorem cell_set_far {w : World} {G o b q : Nat} {u v : Value} (h : w.cell? ⟨b, q, none⟩ = some v) (hne : b ≠ G) : (w.setCell ⟨G, o, none⟩ u).cell? ⟨b, q, none⟩ = some v := cell_blk h (row_far _ hne)
def BlkRd (W0 W : World) (g : Nat) (A : Option Addr) (n : Nat) (xs : List UInt8) (e : Ending) (w' : World) : Prop :=
  ∃ (s : Int) (B : Option Addr) (m d : Nat) (cs : List Cell), e = .returned (.agg #[.int .i64 s, .slice B m d]) ∧ RdIn W.heap.size w' B m 3 cs cellC ∧ m ≤ 16 ∧ Cur W0 w' g A n xs ∧ Only g (g + 1) W w'

set_option maxRecDepth 100000 in
set_option maxHeartbeats 4000000 in
theorem l03Any_any (W0 : World) (g : Nat) (A : Option Addr) (n : Nat) (xs : List UInt8) (W : World) (hC : Cur W0 W g A n xs) :
    Calls Try.prog 65 #[.pointer (some ⟨g, 0, none⟩)] W (BlkRd W0 W g A n xs) := by
  have hgW := hC.lt
  have hW0 := hC.base.size
  obtain ⟨wa, hwa⟩ : ∃ v, Hid (W.alloc (.cells #[.int .i64 0, .slice none 0 0] 30) = v) := ⟨_, rfl⟩
  obtain ⟨r, hr⟩ : ∃ j, Hid (W.heap.size = j) := ⟨_, rfl⟩
  have rr : wa.heap[r]? = some (.cells #[.int .i64 0, .slice none 0 0] 30 (0, 0)) := by rw [← hwa.out, ← hr.out]; exact heap_alloc_new W _
  have bwa : Below W.heap.size W wa := by rw [← hwa.out]; exact (Below.refl _ _).alloc (Nat.le_refl _) _
  have hrW : W.heap.size ≤ r := by have := hr.out; omega
  have hsa : wa.heap.size = r + 1 := by rw [← hwa.out, ← hr.out]; simp
  have hCa := hC.below bwa
  have hoa : Only g (g + 1) W wa := Only.of_below bwa
  go_enter Try.func65, Try.ntmps65
  go_wp2_with (first | rw [hwa.out] | rw [hr.out])
  refine (l03Block_any W0 g A n xs _ hCa).mono ?_
  rintro e w1 ⟨s, v, cs, rfl, hacc, hl1, hl2, hC1, ho1⟩
  have r1 := only_cell' rr ho1 (by omega)
  have o1 := hoa.trans ho1
  obtain ⟨x0, hx0⟩ : ∃ x : Cell, cs[0]? = some x := ⟨_, List.getElem?_eq_getElem (by omega)⟩
  obtain ⟨G, c, hv, hG, hG2, _, _⟩ := hacc.cells_at cellC_len hx0
  obtain ⟨L, hL⟩ : ∃ L, Hid (cs.length = L) := ⟨_, rfl⟩
  rw [hL.out] at hv hl1 hl2
  subst hv
  rw [hsa] at hG
  obtain ⟨wb, hwb⟩ : ∃ v, Hid (w1.alloc (.cells #[.int .i64 s, .slice (some ⟨G, 0, none⟩) L c] 30) = v) := ⟨_, rfl⟩
  obtain ⟨j, hj⟩ : ∃ j, Hid (w1.heap.size = j) := ⟨_, rfl⟩
  have rj : wb.heap[j]? = some (.cells #[.int .i64 s, .slice (some ⟨G, 0, none⟩) L c] 30 (0, 0)) := by rw [← hwb.out, ← hj.out]; exact heap_alloc_new w1 _
  have bwb : Below w1.heap.size w1 wb := by rw [← hwb.out]; exact (Below.refl _ _).alloc (Nat.le_refl _) _
  have hsb : wb.heap.size = j + 1 := by rw [← hwb.out, ← hj.out]; simp
  have hrj : r < j := by have h1 := hj.out; have h2 := heap_lt r1; omega
  have r2 := (bwb.block r (heap_lt r1)).trans r1
  have hC2 := hC1.below bwb
  have o2 := o1.trans (Only.of_below bwb)
  have hGj : G < j := by have := hj.out; omega
  have hacc2 : Acc wb (r + 1) 77 3 (.slice (some ⟨G, 0, none⟩) L c) cs cellC := by have h := hacc.below bwb; rw [hsa] at h; exact h
  have HLO := Lib.hid (show W.heap.size ≤ r + 1 by omega)
  clear hx0 hG2 hacc rr bwa hCa hoa ho1 r1 o1 hC1 bwb hC
  go_wp2_with fail
  rw [hwb.out, hj.out]
  refine (l01Below_any W0 g A n xs 12 _ hC2 (by omega)).mono ?_
  rintro e w3 ⟨x, rfl, hx, hC3, ho3⟩
  have r3 := only_cell' r2 ho3 (by omega)
  have j3 := only_cell' rj ho3 (by omega)
  have o3 := o2.trans ho3
  have hacc3 := hacc2.only ho3 (by omega)
  have hs3 : j < w3.heap.size := heap_lt j3
  clear hx r2 rj o2 hacc2 hC2 ho3 hsa hsb
  by_cases h0 : x = 0
  · subst h0
    obtain ⟨wl, hwl⟩ : ∃ v, Hid (w3.alloc (.cells #[.int .i64 (-1), .int .i64 0, .int .i64 2, .int .i64 5] 3) = v) := ⟨_, rfl⟩
    obtain ⟨i, hi⟩ : ∃ j, Hid (w3.heap.size = j) := ⟨_, rfl⟩
    have ri : wl.heap[i]? = some (.cells #[.int .i64 (-1), .int .i64 0, .int .i64 2, .int .i64 5] 3 (0, 0)) := by rw [← hwl.out, ← hi.out]; exact heap_alloc_new w3 _
    have bwl : Below w3.heap.size w3 wl := by rw [← hwl.out]; exact (Below.refl _ _).alloc (Nat.le_refl _) _
    have hig : g < i := by have := hi.out; omega
    have r4 := (bwl.block r (heap_lt r3)).trans r3
    have j4 := (bwl.block j (heap_lt j3)).trans j3
    have o4 := o3.trans (Only.of_below bwl)
    have hC4 := hC3.below bwl
    have hacc4 := hacc3.below bwl
    clear r3 j3 o3 hC3 hacc3 bwl
    go_wp2_with (first | rw [hwl.out] | rw [hi.out])
    refine (pickInt_any W0 g A n xs [-1, 0, 2, 5] i _ _ hC4 ri (by omega) (by decide) (by decide)).mono ?_
    rintro e w5 ⟨y, rfl, _, hC5, ho5⟩
    have r5 := only_cell' r4 ho5 (by omega)
    have j5 := only_cell' j4 ho5 (by omega)
    have o5 := o4.trans ho5
    have hacc5 := hacc4.only ho5 (by omega)
    obtain ⟨wt, hwt⟩ : ∃ v, Hid (w5.setCell ⟨j, 0, none⟩ (.int .i64 y) = v) := ⟨_, rfl⟩
    have jt : wt.heap[j]? = some (.cells #[.int .i64 y, .slice (some ⟨G, 0, none⟩) L c] 30 (0, 0)) := by rw [← hwt.out]; exact row_set _ j5
    have rt : wt.heap[r]? = some (.cells #[.int .i64 0, .slice none 0 0] 30 (0, 0)) := by rw [← hwt.out, row_far _ (by omega)]; exact r5
    have ot : Only g (g + 1) W wt := by rw [← hwt.out]; exact only_setNew o5 (by omega) _
    have hCt : Cur W0 wt g A n xs := by rw [← hwt.out]; exact hC5.grow (grown_at _ j _ _) (fun e => by have := Option.some.inj e; omega) (fun q e => by have := Option.some.inj e; omega)
    have hacct : Acc wt (r + 1) 77 3 (.slice (some ⟨G, 0, none⟩) L c) cs cellC := by rw [← hwt.out]; exact hacc5.kept (grown_at _ j _ _) (fun q hq e => by have h1 : G = q := Option.some.inj hq; have h2 := Option.some.inj e; omega)
    obtain ⟨x0', x1', g0, g1⟩ := box2 j5
    obtain ⟨y0, y1, _, _⟩ := box2 jt
    have hrd := RdIn.of_acc hacct cellC_len
    have Y := box2 (row_set (o := 1) (.slice (some ⟨G, 0, none⟩) L c) (row_set (o := 0) (.int .i64 y) rt))
    have Y0 := Lib.hid Y.1; have Y1 := Lib.hid Y.2.1
    have HR := Lib.hid ((hrd.only (Only.of_row (grown_at _ r 0 (.int .i64 y)) (Nat.le_refl r) (Nat.lt_succ_self r)) (by omega)).only (Only.of_row (grown_at _ r 1 (.slice (some ⟨G, 0, none⟩) L c)) (Nat.le_refl r) (Nat.lt_succ_self r)) (by omega))
    have cn : ∀ k, some r = some k → W0.heap.size ≤ k := fun k e => by have := Option.some.inj e; omega
    have cg : (some r : Option Nat) ≠ some g := fun e => by have := Option.some.inj e; omega
    have HC := Lib.hid ((hCt.grow (grown_at _ r 0 (.int .i64 y)) cg cn).grow (grown_at _ r 1 (.slice (some ⟨G, 0, none⟩) L c)) cg cn)
    have HO := Lib.hid (only_setNew (only_setNew ot hrW (o := 0) (.int .i64 y)) hrW (o := 1) (.slice (some ⟨G, 0, none⟩) L c))
    obtain ⟨z0, z1, f0, f1⟩ := box2 rt
    clear Y cn cg r4 j4 o4 hC4 hacc4 r5 j5 o5 hacc5 hC5 ho5 ri jt rt ot hCt hacct hrd
    go_wp2_with (rw [hwt.out])
    exact bodyPost_ret (v := .agg #[.int .i64 y, (.slice (some ⟨G, 0, none⟩) L c)]) (by simp [results, Try.results65, go_sem, Y0.out, Y1.out]) rfl ⟨_, _, _, _, _, rfl, HR.out.mono HLO.out, hl2, HC.out, HO.out⟩
  by_cases h1 : x = 1
  · subst h1
    have hLI : (0 : Int) < (L : Int) := by omega
    have hLI2 : (L : Int) ≤ 256 := by omega
    obtain ⟨x0', x1', g0, g1⟩ := box2 j3
    have d3 := hC3.below (Below.refl _ w3).drew
    have R3 := Lib.hid r3; have J3 := Lib.hid j3; have O3 := Lib.hid o3; have AC3 := Lib.hid hacc3; clear r3 j3 o3 hacc3
    clear h0
    have hjG : j ≠ G := by omega
    go_wp2_with fail
    go_region_held3 (fun v => v.cell? ⟨j, 1, none⟩ = some (.slice (some ⟨G, 0, none⟩) L c)) (first | exact x1' | exact k5 | exact k6 | exact cell_set_far (cell_set_far (cell_set_far k6 hjG) hjG) hjG | go_keep) (first | (go_at_call 67; refine (l01Below_any W0 g A n xs (L : Int) _ d3 hLI2).mono ?_; rintro e w5 ⟨p, rfl, hp, hC5, ho5⟩; have hp0 := hp.1; have hp1 := hp.2.1 hLI; obtain ⟨p, rfl⟩ := Int.eq_ofNat_of_zero_le hp0; have hpL : p < L := (by omega); have k5 : w5.cell? ⟨j, 1, none⟩ = some (.slice (some ⟨G, 0, none⟩) L c) := cell_blk x1' (ho5.block j hs3 (.inr (by omega)))) | (go_at_call 74; refine (l02Any_any W0 g A n xs _ hC5).mono ?_; rintro e w6 ⟨s6, a6, b6, rfl, hC6, ho6⟩; have k6 : w6.cell? ⟨j, 1, none⟩ = some (.slice (some ⟨G, 0, none⟩) L c) := cell_blk k5 (ho6.block j (Nat.lt_of_lt_of_le hs3 ho5.size) (.inr (by omega))); have hacc6 := (AC3.out.drew.only ho5 (by omega)).only ho6 (by omega); obtain ⟨⟨u0, u1, u2⟩, hu⟩ : ∃ x : Cell, cs[p]? = some x := ⟨_, List.getElem?_eq_getElem (by have := hL.out; omega)⟩; obtain ⟨gb, cgb, ev, _, _, hcB, hfB⟩ := hacc6.cells_at cellC_len hu; injection ev with ev1 ev3 ev4; injection ev1 with ev1; injection ev1 with ev1 _ _; subst ev1; have yb0 := hcB 0 _ rfl; have yb1 := hcB 1 _ rfl; have yb2 := hcB 2 _ rfl; have fb0 := hfB (p * 3); have fb1 := hfB (p * 3 + 1); have fb2 := hfB (p * 3 + 2); rw [Nat.add_zero] at yb0; have HU := Lib.hid hu; clear hu hcB hfB ev3 ev4))
    all_goals
      obtain ⟨wt, hwt⟩ : ∃ v, Hid ((((w6.setCell ⟨G, p * 3, none⟩ (.int .i64 s6)).setCell ⟨G, p * 3 + 1, none⟩ (.int .i64 a6)).setCell ⟨G, p * 3 + 2, none⟩ (.int .i64 b6)) = v) := ⟨_, rfl⟩
      rw [hL.out.symm] at hacc6
      have hpl : p < cs.length := by have := hL.out; omega
      have hx0 := HU.out
      have t0 := (Acc.put hacc6 cellC_len (p := p) (j := 0) (x := ⟨u0, u1, u2⟩) (y := ⟨s6, u1, u2⟩) (u := (.int .i64 s6)) hx0 (by omega) rfl).1
      have hx1 : (cs.set p (⟨s6, u1, u2⟩ : Cell))[p]? = some (⟨s6, u1, u2⟩ : Cell) := by rw [List.getElem?_set_self (by first | omega | (simp; omega))]
      rw [show (cs).length = (cs.set p (⟨s6, u1, u2⟩ : Cell)).length by simp] at t0
      have t1 := (Acc.put t0 cellC_len (p := p) (j := 1) (x := ⟨s6, u1, u2⟩) (y := ⟨s6, a6, u2⟩) (u := (.int .i64 a6)) hx1 (by omega) rfl).1
      have hx2 : ((cs.set p (⟨s6, u1, u2⟩ : Cell)).set p (⟨s6, a6, u2⟩ : Cell))[p]? = some (⟨s6, a6, u2⟩ : Cell) := by rw [List.getElem?_set_self (by first | omega | (simp; omega))]
      rw [show ((cs.set p (⟨s6, u1, u2⟩ : Cell))).length = ((cs.set p (⟨s6, u1, u2⟩ : Cell)).set p (⟨s6, a6, u2⟩ : Cell)).length by simp] at t1
      have t2 := (Acc.put t1 cellC_len (p := p) (j := 2) (x := ⟨s6, a6, u2⟩) (y := ⟨s6, a6, b6⟩) (u := (.int .i64 b6)) hx2 (by omega) rfl).1
      simp only [List.set_set, List.length_set, Nat.add_zero] at t2
      rw [hwt.out, hL.out] at t2
      have fart : ∀ b, b ≠ G → wt.heap[b]? = w6.heap[b]? := fun b hb => by rw [← hwt.out, row_far _ hb, row_far _ hb, row_far _ hb]
      have r6 := only_cell' (only_cell' R3.out ((only_drew (Only.refl g (g + 1) w3)).trans ho5) (by omega)) ho6 (by omega)
      have j6 := only_cell' (only_cell' J3.out ((only_drew (Only.refl g (g + 1) w3)).trans ho5) (by omega)) ho6 (by omega)
      have rt := (fart r (by omega)).trans r6
      have jt := (fart j (by omega)).trans j6
      have o6 := (O3.out.trans ((only_drew (Only.refl g (g + 1) w3)).trans ho5)).trans ho6
      have ot : Only g (g + 1) W wt := by rw [← hwt.out]; exact only_setNew (only_setNew (only_setNew o6 (by omega) _) (by omega) _) (by omega) _
      have hCt : Cur W0 wt g A n xs := by rw [← hwt.out]; exact ((hC6.grow (grown_at _ G _ _) (fun e => by have := Option.some.inj e; omega) (fun q e => by have := Option.some.inj e; omega)).grow (grown_at _ G _ _) (fun e => by have := Option.some.inj e; omega) (fun q e => by have := Option.some.inj e; omega)).grow (grown_at _ G _ _) (fun e => by have := Option.some.inj e; omega) (fun q e => by have := Option.some.inj e; omega)
      obtain ⟨y0, y1, _, _⟩ := box2 jt
      have hrd := RdIn.of_acc t2 cellC_len
      have hLn : L ≤ 16 := by omega
      have hln : (cs.set p (⟨s6, a6, b6⟩ : Cell)).length = L := by rw [List.length_set]; exact hL.out
      have Y := box2 (row_set (o := 1) (.slice (some ⟨G, 0, none⟩) L c) (row_set (o := 0) (.int .i64 s) rt))
      have Y0 := Lib.hid Y.1; have Y1 := Lib.hid Y.2.1
      have HR := Lib.hid ((hrd.only (Only.of_row (grown_at _ r 0 (.int .i64 s)) (Nat.le_refl r) (Nat.lt_succ_self r)) (by omega)).only (Only.of_row (grown_at _ r 1 (.slice (some ⟨G, 0, none⟩) L c)) (Nat.le_refl r) (Nat.lt_succ_self r)) (by omega))
      have cn : ∀ k, some r = some k → W0.heap.size ≤ k := fun k e => by have := Option.some.inj e; omega
      have cg : (some r : Option Nat) ≠ some g := fun e => by have := Option.some.inj e; omega
      have HC := Lib.hid ((hCt.grow (grown_at _ r 0 (.int .i64 s)) cg cn).grow (grown_at _ r 1 (.slice (some ⟨G, 0, none⟩) L c)) cg cn)
      have HO := Lib.hid (only_setNew (only_setNew ot hrW (o := 0) (.int .i64 s)) hrW (o := 1) (.slice (some ⟨G, 0, none⟩) L c))
      obtain ⟨z0, z1, f0, f1⟩ := box2 rt
      clear Y cn cg t0 t1 t2 hx0 hx1 hx2 fart r6 j6 o6 rt jt ot hCt hrd hC6 ho6 hC5 ho5 d3 hacc6 hln hp hp0 hp1 hpl
      go_wp2_with (rw [hwt.out])
      exact bodyPost_ret (v := .agg #[.int .i64 s, (.slice (some ⟨G, 0, none⟩) L c)]) (by simp [results, Try.results65, go_sem, Y0.out, Y1.out]) rfl ⟨_, _, _, _, _, rfl, HR.out.mono HLO.out, hLn, HC.out, HO.out⟩
  by_cases h2 : x = 2
  · subst h2
    have hLI : (1 : Int) ≤ (L : Int) := by omega
    have hLc : L ≤ c := by obtain ⟨A', c', e, h, _⟩ := hacc3.own cellC_len; injection e with e1 e2 e3; omega
    have hrd0 := RdIn.of_acc hacc3 cellC_len
    obtain ⟨x0', x1', g0, g1⟩ := box2 j3
    by_cases hc1 : c = 1
    · subst hc1
      obtain rfl : L = 1 := by omega
      have hrdn : RdIn (r + 1) w3 (some ⟨G, 0, none⟩) 0 3 ([] : List Cell) cellC := ⟨rfl, fun h => absurd h (by omega)⟩
      have hLn : 0 ≤ 16 := by omega
      obtain ⟨wt, hwt⟩ : ∃ v, Hid (w3.setCell ⟨j, 1, none⟩ (.slice (some ⟨G, 0, none⟩) 0 0) = v) := ⟨_, rfl⟩
      have jt : wt.heap[j]? = some (.cells #[.int .i64 s, (.slice (some ⟨G, 0, none⟩) 0 0)] 30 (0, 0)) := by rw [← hwt.out]; exact row_set _ j3
      have rt : wt.heap[r]? = some (.cells #[.int .i64 0, .slice none 0 0] 30 (0, 0)) := by rw [← hwt.out, row_far _ (by omega)]; exact r3
      have ot : Only g (g + 1) W wt := by rw [← hwt.out]; exact only_setNew o3 (by omega) _
      have hCt : Cur W0 wt g A n xs := by rw [← hwt.out]; exact hC3.grow (grown_at _ j _ _) (fun e => by have := Option.some.inj e; omega) (fun q e => by have := Option.some.inj e; omega)
      have hrd : RdIn (r + 1) wt (some ⟨G, 0, none⟩) 0 3 ([] : List Cell) cellC := ⟨rfl, fun h => absurd h (by omega)⟩
      obtain ⟨y0, y1, _, _⟩ := box2 jt
      have Y := box2 (row_set (o := 1) (.slice (some ⟨G, 0, none⟩) 0 0) (row_set (o := 0) (.int .i64 s) rt))
      have Y0 := Lib.hid Y.1; have Y1 := Lib.hid Y.2.1
      have HR := Lib.hid ((hrd.only (Only.of_row (grown_at _ r 0 (.int .i64 s)) (Nat.le_refl r) (Nat.lt_succ_self r)) (by omega)).only (Only.of_row (grown_at _ r 1 (.slice (some ⟨G, 0, none⟩) 0 0)) (Nat.le_refl r) (Nat.lt_succ_self r)) (by omega))
      have cn : ∀ k, some r = some k → W0.heap.size ≤ k := fun k e => by have := Option.some.inj e; omega
      have cg : (some r : Option Nat) ≠ some g := fun e => by have := Option.some.inj e; omega
      have HC := Lib.hid ((hCt.grow (grown_at _ r 0 (.int .i64 s)) cg cn).grow (grown_at _ r 1 (.slice (some ⟨G, 0, none⟩) 0 0)) cg cn)
      have HO := Lib.hid (only_setNew (only_setNew ot hrW (o := 0) (.int .i64 s)) hrW (o := 1) (.slice (some ⟨G, 0, none⟩) 0 0))
      obtain ⟨z0, z1, f0, f1⟩ := box2 rt
      clear Y cn cg r3 j3 o3 hC3 hacc3 hrd0 hrdn rt jt ot hCt hrd
      go_wp2_with (rw [hwt.out])
      exact bodyPost_ret (v := .agg #[.int .i64 s, (.slice (some ⟨G, 0, none⟩) 0 0)]) (by simp [results, Try.results65, go_sem, Y0.out, Y1.out]) rfl ⟨_, _, _, _, _, rfl, HR.out.mono HLO.out, hLn, HC.out, HO.out⟩
    · skip
      obtain ⟨y, cs', rfl⟩ : ∃ y cs', cs = y :: cs' := by cases cs with | nil => (have := hL.out; simp at this; omega) | cons y l => exact ⟨y, l, rfl⟩
      have hL1 : L = cs'.length + 1 := hL.out.symm
      have hLm : L - 1 = cs'.length := by omega
      have hrdn : RdIn (r + 1) w3 (some ⟨G, 3, none⟩) (L - 1) 3 cs' cellC := by rw [hLm]; rw [hL1] at hrd0; exact hrd0.tail
      have hLn : (L - 1) ≤ 16 := by omega
      obtain ⟨wt, hwt⟩ : ∃ v, Hid (w3.setCell ⟨j, 1, none⟩ (.slice (some ⟨G, 3, none⟩) (L - 1) (c - 1)) = v) := ⟨_, rfl⟩
      have jt : wt.heap[j]? = some (.cells #[.int .i64 s, (.slice (some ⟨G, 3, none⟩) (L - 1) (c - 1))] 30 (0, 0)) := by rw [← hwt.out]; exact row_set _ j3
      have rt : wt.heap[r]? = some (.cells #[.int .i64 0, .slice none 0 0] 30 (0, 0)) := by rw [← hwt.out, row_far _ (by omega)]; exact r3
      have ot : Only g (g + 1) W wt := by rw [← hwt.out]; exact only_setNew o3 (by omega) _
      have hCt : Cur W0 wt g A n xs := by rw [← hwt.out]; exact hC3.grow (grown_at _ j _ _) (fun e => by have := Option.some.inj e; omega) (fun q e => by have := Option.some.inj e; omega)
      have hfar : ∀ b, b ≠ j → wt.heap[b]? = w3.heap[b]? := fun b hb => by rw [← hwt.out, row_far _ hb]
      have hrd : RdIn (r + 1) wt (some ⟨G, 3, none⟩) (L - 1) 3 cs' cellC := ⟨hrdn.1, fun hn => by obtain ⟨b, off, h1, h2, h3, h4⟩ := hrdn.2 hn; injection h2 with h2; injection h2 with h2 h5 _; subst h2 h5; exact ⟨G, 3, h1, rfl, by rw [← hwt.out, set_size]; exact h3, fun i x jj u hx hu => cell_blk (h4 i x jj u hx hu) (hfar G (by omega))⟩⟩
      obtain ⟨y0, y1, _, _⟩ := box2 jt
      have Y := box2 (row_set (o := 1) (.slice (some ⟨G, 3, none⟩) (L - 1) (c - 1)) (row_set (o := 0) (.int .i64 s) rt))
      have Y0 := Lib.hid Y.1; have Y1 := Lib.hid Y.2.1
      have HR := Lib.hid ((hrd.only (Only.of_row (grown_at _ r 0 (.int .i64 s)) (Nat.le_refl r) (Nat.lt_succ_self r)) (by omega)).only (Only.of_row (grown_at _ r 1 (.slice (some ⟨G, 3, none⟩) (L - 1) (c - 1))) (Nat.le_refl r) (Nat.lt_succ_self r)) (by omega))
      have cn : ∀ k, some r = some k → W0.heap.size ≤ k := fun k e => by have := Option.some.inj e; omega
      have cg : (some r : Option Nat) ≠ some g := fun e => by have := Option.some.inj e; omega
      have HC := Lib.hid ((hCt.grow (grown_at _ r 0 (.int .i64 s)) cg cn).grow (grown_at _ r 1 (.slice (some ⟨G, 3, none⟩) (L - 1) (c - 1))) cg cn)
      have HO := Lib.hid (only_setNew (only_setNew ot hrW (o := 0) (.int .i64 s)) hrW (o := 1) (.slice (some ⟨G, 3, none⟩) (L - 1) (c - 1)))
      obtain ⟨z0, z1, f0, f1⟩ := box2 rt
      clear Y cn cg r3 j3 o3 hC3 hacc3 hrd0 hrdn rt jt ot hCt hrd hfar hL1 hLm
      go_wp2_with (rw [hwt.out])
      exact bodyPost_ret (v := .agg #[.int .i64 s, (.slice (some ⟨G, 3, none⟩) (L - 1) (c - 1))]) (by simp [results, Try.results65, go_sem, Y0.out, Y1.out]) rfl ⟨_, _, _, _, _, rfl, HR.out.mono HLO.out, hLn, HC.out, HO.out⟩
  have e0 : (x == 0) = false := by simpa using h0
  have e1 : (x == 1) = false := by simpa using h1
  have e2 : (x == 2) = false := by simpa using h2
  obtain ⟨y0, y1, _, _⟩ := box2 j3
  have hrd := RdIn.of_acc hacc3 cellC_len
  have Y := box2 (row_set (o := 1) (.slice (some ⟨G, 0, none⟩) L c) (row_set (o := 0) (.int .i64 s) r3))
  have Y0 := Lib.hid Y.1; have Y1 := Lib.hid Y.2.1
  have HR := Lib.hid ((hrd.only (Only.of_row (grown_at _ r 0 (.int .i64 s)) (Nat.le_refl r) (Nat.lt_succ_self r)) (by omega)).only (Only.of_row (grown_at _ r 1 (.slice (some ⟨G, 0, none⟩) L c)) (Nat.le_refl r) (Nat.lt_succ_self r)) (by omega))
  have cn : ∀ k, some r = some k → W0.heap.size ≤ k := fun k e => by have := Option.some.inj e; omega
  have cg : (some r : Option Nat) ≠ some g := fun e => by have := Option.some.inj e; omega
  have HC := Lib.hid ((hC3.grow (grown_at _ r 0 (.int .i64 s)) cg cn).grow (grown_at _ r 1 (.slice (some ⟨G, 0, none⟩) L c)) cg cn)
  have HO := Lib.hid (only_setNew (only_setNew o3 hrW (o := 0) (.int .i64 s)) hrW (o := 1) (.slice (some ⟨G, 0, none⟩) L c))
  obtain ⟨z0, z1, f0, f1⟩ := box2 r3
  clear Y cn cg r3 j3 o3 hC3 hacc3 hrd h0 h1 h2
  go_wp2
  exact bodyPost_ret (v := .agg #[.int .i64 s, (.slice (some ⟨G, 0, none⟩) L c)]) (by simp [results, Try.results65, go_sem, Y0.out, Y1.out]) rfl ⟨_, _, _, _, _, rfl, HR.out.mono HLO.out, hl2, HC.out, HO.out⟩

end Go.Proofs.Ytkbpehklfjnjjaa
