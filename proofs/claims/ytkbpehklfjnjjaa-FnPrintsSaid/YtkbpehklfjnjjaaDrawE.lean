/-
  A drawn block: what cells it holds is of no matter.
-/
import Derived.Test.YtkbpehklfjnjjaaDrawD
set_option linter.unusedVariables false
set_option linter.unusedSimpArgs false
namespace Go.Proofs.Ytkbpehklfjnjjaa
open Go.RowKit

theorem only_grown {lo hi : Nat} {W w w' : World} {row : Option Nat} (h : Only lo hi W w) (hg : w.grownBy w' row) (hl : ∀ k, row = some k → W.heap.size ≤ k) : Only lo hi W w' :=
  ⟨hg.os.trans h.os, hg.tape.trans h.tape, hg.output.trans h.output, Nat.le_trans h.size hg.size, fun k hk hd => (hg.block k (Nat.lt_of_lt_of_le hk h.size) (fun e => by have := hl k e.symm; omega)).trans (h.block k hk hd)⟩
def BlkAny (W0 W : World) (g : Nat) (A : Option Addr) (n : Nat) (xs : List UInt8) (e : Ending) (w' : World) : Prop :=
  ∃ (s : Int) (v : Value) (cs : List Cell), e = .returned (.agg #[.int .i64 s, v]) ∧ Acc w' W.heap.size 77 3 v cs cellC ∧ 1 ≤ cs.length ∧ cs.length ≤ 16 ∧ Cur W0 w' g A n xs ∧ Only g (g + 1) W w'

set_option maxRecDepth 100000 in
theorem l03Block_any (W0 : World) (g : Nat) (A : Option Addr) (n : Nat) (xs : List UInt8) (W : World) (hC : Cur W0 W g A n xs) :
    Calls Try.prog 72 #[.pointer (some ⟨g, 0, none⟩)] W (BlkAny W0 W g A n xs) := by
  have hgW := hC.lt
  have hW0 := hC.base.size
  obtain ⟨wa, hwa⟩ : ∃ v, Hid (W.alloc (.cells #[.int .i64 0, .slice none 0 0] 30) = v) := ⟨_, rfl⟩
  obtain ⟨r, hr⟩ : ∃ j, Hid (W.heap.size = j) := ⟨_, rfl⟩
  have rr : wa.heap[r]? = some (.cells #[.int .i64 0, .slice none 0 0] 30 (0, 0)) := by rw [← hwa.out, ← hr.out]; exact heap_alloc_new W _
  have bwa : Below W.heap.size W wa := by rw [← hwa.out]; exact (Below.refl _ _).alloc (Nat.le_refl _) _
  have hrW : W.heap.size ≤ r := by have := hr.out; omega
  have hsa : wa.heap.size = r + 1 := by rw [← hwa.out, ← hr.out]; simp
  have hCa := hC.below bwa
  have hoa : Only g (g + 1) W wa := Only.of_below bwa
  go_enter Try.func72, Try.ntmps72
  go_wp2_with (first | rw [hwa.out] | rw [hr.out])
  refine (l01Below_any W0 g A n xs 6 _ hCa (by omega)).mono ?_
  rintro e w1 ⟨x, rfl, hx, hC1, ho1⟩
  have r1 := only_cell' rr ho1 (by omega)
  have o1 := hoa.trans ho1
  have hs1 : r < w1.heap.size := heap_lt r1
  clear hx hCa hoa rr ho1 bwa hC
  by_cases h0 : x = 0
  · subst h0
    go_wp2_with fail
    refine (starS_any _).mono ?_
    rintro e w2 ⟨s, v, cs, rfl, hacc, hl1, hl2, hb2⟩
    have r2 := (hb2.block r hs1).trans r1
    have hC2 := hC1.below hb2
    have o2 := o1.trans (Only.of_below hb2)
    have HLO := Lib.hid (show W.heap.size ≤ w1.heap.size by omega)
    obtain ⟨A7, c7, e7, _, _⟩ := hacc.own cellC_len
    obtain ⟨L7, e8⟩ : ∃ L : Nat, v = .slice A7 L c7 := ⟨_, e7⟩
    subst e8; clear e7
    have Y := box2 (row_set (o := 1) (.slice A7 L7 c7) (row_set (o := 0) (.int .i64 s) r2))
    have Y0 := Lib.hid Y.1; have Y1 := Lib.hid Y.2.1
    have hlr : ∀ q, Value.ownBlock (.slice A7 L7 c7) = some q → (some r : Option Nat) ≠ some q := fun q e h => by have h1 := (hacc.row e).1; have h2 := Option.some.inj h; omega
    have HA := Lib.hid ((hacc.kept (grown_at _ r 0 (.int .i64 s)) hlr).kept (grown_at _ r 1 (.slice A7 L7 c7)) hlr)
    have cn : ∀ k, some r = some k → W0.heap.size ≤ k := fun k e => by have := Option.some.inj e; omega
    have cg : (some r : Option Nat) ≠ some g := fun e => by have := Option.some.inj e; omega
    have HC := Lib.hid ((hC2.grow (grown_at _ r 0 (.int .i64 s)) cg cn).grow (grown_at _ r 1 (.slice A7 L7 c7)) cg cn)
    have HO := Lib.hid (only_setNew (only_setNew o2 hrW (o := 0) (.int .i64 s)) hrW (o := 1) (.slice A7 L7 c7))
    obtain ⟨z0, z1, f0, f1⟩ := box2 r2
    clear Y hlr cn cg r1 o1 r2 hC2 o2 hC1 hb2 hacc hrW hsa
    go_wp2
    exact bodyPost_ret (v := .agg #[.int .i64 s, (.slice A7 L7 c7)]) (by simp [results, Try.results72, go_sem, Y0.out, Y1.out]) rfl ⟨_, _, _, rfl, HA.out.mono HLO.out, hl1, hl2, HC.out, HO.out⟩
  by_cases h1 : x = 1
  · subst h1
    clear h0
    go_wp2_with fail
    refine (l01Below_any W0 g A n xs 4 _ hC1 (by omega)).mono ?_
    rintro e w2 ⟨y, rfl, hy, hC2, ho2⟩
    have hy0 := hy.1; have hy1 := hy.2.1 (by omega)
    have r2 := only_cell' r1 ho2 (by omega)
    have o2 := o1.trans ho2
    have hs2 : r < w2.heap.size := heap_lt r2
    obtain ⟨s, hs⟩ : ∃ s, Hid (1 + y = s) := ⟨_, rfl⟩
    have hsa1 : 1 ≤ s := by have := hs.out; omega
    have hsa2 : s ≤ 4 := by have := hs.out; omega
    clear hy hC1 ho2 r1 o1 hs1
    go_wp2_with fail
    (try rw [hs.out])
    refine (l01Below_any W0 g A n xs 3 _ hC2 (by omega)).mono ?_
    rintro e w3 ⟨z, rfl, hz, hC3, ho3⟩
    have hz0 := hz.1; have hz1 := hz.2.1 (by omega)
    have r3 := only_cell' r2 ho3 (by omega)
    have o3 := o2.trans ho3
    have hs3 : r < w3.heap.size := heap_lt r3
    obtain ⟨N, hN⟩ := Int.eq_ofNat_of_zero_le (show 0 ≤ s * s by have := sq_bd hsa1 hsa2; omega)
    have HN := Lib.hid hN
    clear hz hN hC2 ho3 r2 o2 hs2
    go_wp2_with fail
    (try rw [hs.out])
    refine (plainS_any s z N _ hsa1 hsa2 HN.out hz0 (by omega)).mono ?_
    rintro e w4 ⟨s', v, cs, rfl, hacc, hl1, hl2, hb4⟩
    have r4 := (hb4.block r hs3).trans r3
    have hC4 := hC3.below hb4
    have o4 := o3.trans (Only.of_below hb4)
    have hs4 : r < w4.heap.size := heap_lt r4
    have HLO := Lib.hid (show W.heap.size ≤ w3.heap.size by omega)
    obtain ⟨A7, c7, e7, _, _⟩ := hacc.own cellC_len
    obtain ⟨L7, e8⟩ : ∃ L : Nat, v = .slice A7 L c7 := ⟨_, e7⟩
    subst e8; clear e7
    have q5 := row_set (o := 1) (.slice A7 L7 c7) (row_set (o := 0) (.int .i64 s') r4)
    have hlr : ∀ q, Value.ownBlock (.slice A7 L7 c7) = some q → (some r : Option Nat) ≠ some q := fun q e h => by have h1 := (hacc.row e).1; have h2 := Option.some.inj h; omega
    have HA := Lib.hid (((hacc.kept (grown_at _ r 0 (.int .i64 s')) hlr).kept (grown_at _ r 1 (.slice A7 L7 c7)) hlr).alloc (.cells #[.int .i64 s', .slice A7 L7 c7] 30))
    have cn : ∀ k, some r = some k → W0.heap.size ≤ k := fun k e => by have := Option.some.inj e; omega
    have cg : (some r : Option Nat) ≠ some g := fun e => by have := Option.some.inj e; omega
    have HC := Lib.hid (((hC4.grow (grown_at _ r 0 (.int .i64 s')) cg cn).grow (grown_at _ r 1 (.slice A7 L7 c7)) cg cn).below ((Below.refl _ _).alloc (Nat.le_refl _) (.cells #[.int .i64 s', .slice A7 L7 c7] 30)))
    have HO := Lib.hid ((only_setNew (only_setNew o4 hrW (o := 0) (.int .i64 s')) hrW (o := 1) (.slice A7 L7 c7)).trans (Only.of_below ((Below.refl _ _).alloc (Nat.le_refl _) (.cells #[.int .i64 s', .slice A7 L7 c7] 30))))
    have Y := box2 ((Below.heap_alloc ((w4.setCell ⟨r, 0, none⟩ (.int .i64 s')).setCell ⟨r, 1, none⟩ (.slice A7 L7 c7)) (.cells #[.int .i64 s', .slice A7 L7 c7] 30) r (by rw [set_size, set_size]; exact hs4)).trans q5)
    have Y0 := Lib.hid Y.1; have Y1 := Lib.hid Y.2.1
    obtain ⟨z0, z1, f0, f1⟩ := box2 r4
    clear Y hlr cn cg r3 o3 r4 hC4 o4 hC3 hb4 hacc hrW hsa q5 hy0 hy1 hz0 hz1
    have hne : r ≠ w4.heap.size := by omega
    go_wp2
    exact bodyPost_ret (v := .agg #[.int .i64 s', (.slice A7 L7 c7)]) (by simp [results, Try.results72, go_sem, Y0.out, Y1.out]) rfl ⟨_, _, _, rfl, HA.out.mono HLO.out, hl1, hl2, HC.out, HO.out⟩
  have e0 : (x == 0) = false := by simpa using h0
  have e1 : (x == 1) = false := by simpa using h1
  clear h0 h1
  go_wp2_with fail
  refine (l01Below_any W0 g A n xs 4 _ hC1 (by omega)).mono ?_
  rintro e w2 ⟨y, rfl, hy, hC2, ho2⟩
  have hy0 := hy.1; have hy1 := hy.2.1 (by omega)
  have r2 := only_cell' r1 ho2 (by omega)
  have o2 := o1.trans ho2
  have hs2 : r < w2.heap.size := heap_lt r2
  obtain ⟨s, hs⟩ : ∃ s, Hid (1 + y = s) := ⟨_, rfl⟩
  have hsa1 : 1 ≤ s := by have := hs.out; omega
  have hsa2 : s ≤ 4 := by have := hs.out; omega
  have hsq := sq_bd hsa1 hsa2
  obtain ⟨N, hN⟩ := Int.eq_ofNat_of_zero_le (show 0 ≤ s * s by omega)
  have hN1 : 1 ≤ N := by omega
  have hN2 : N ≤ 16 := by omega
  have hw : IntKind.i64.wrap (s * s) = (N : Int) := by rw [hN, IntKind.wrap_i64]; omega
  obtain ⟨wb, hwb⟩ : ∃ v, Hid (w2.alloc (.cells #[.int .i64 s, .slice none 0 0] 30) = v) := ⟨_, rfl⟩
  obtain ⟨j, hj⟩ : ∃ j, Hid (w2.heap.size = j) := ⟨_, rfl⟩
  have rj : wb.heap[j]? = some (.cells #[.int .i64 s, .slice none 0 0] 30 (0, 0)) := by rw [← hwb.out, ← hj.out]; exact heap_alloc_new w2 _
  have bwb : Below w2.heap.size w2 wb := by rw [← hwb.out]; exact (Below.refl _ _).alloc (Nat.le_refl _) _
  have hrj : r < j := by have h1 := hj.out; omega
  have r3 := (bwb.block r hs2).trans r2
  have hC3 := hC2.below bwb
  have o3 := o2.trans (Only.of_below bwb)
  obtain ⟨lo, hlo⟩ : ∃ v, Hid (wb.heap.size = v) := ⟨_, rfl⟩
  have hjl : j < lo := by have h1 := hlo.out; have h2 := heap_lt rj; omega
  clear hy hC1 ho2 r1 o1 hs1 hsq hN hC2 r2 o2 bwb
  go_wp2_with fail
  rw [hs.out, hwb.out, hj.out]
  clear hy0 hy1
  go_loopw [7] (fun i wr => ∃ (k : Nat) (sv : Value) (cs : List Cell), k ≤ N ∧ i = .int .i64 (k : Int) ∧ wr.heap[j]? = some (.cells #[.int .i64 s, sv] 30 (0, 0)) ∧ wr.heap[r]? = some (.cells #[.int .i64 0, .slice none 0 0] 30 (0, 0)) ∧ Acc wr lo 77 3 sv cs cellC ∧ cs.length = k ∧ Cur W0 wr g A n xs ∧ Only g (g + 1) W wr ∧ lo ≤ wr.heap.size) (fun i _ => N - (intOf i).toNat)
  case atStart => exact ⟨0, _, [], Nat.zero_le _, rfl, rj, r3, Acc.nil _ _ _ _ _, rfl, hC3, o3, by rw [hlo.out]; exact Nat.le_refl _⟩
  case round =>
    clear rj r3 hC3 o3
    obtain ⟨k, sv, cs, hk, rfl, qj, qr, hacc, hlen, hC4, o4, hlz⟩ := hrel
    have HLEN := Lib.hid hlen
    clear hlen
    by_cases hlt : k < N
    · have hln : cs.length + 1 ≤ 4294967296 := by have := HLEN.out; omega
      have hkN : (k : Int) < (N : Int) := by omega
      go_wp2_with fail
      refine (l02Cell_any W0 g A n xs _ hC4).mono ?_
      rintro e w5 ⟨s', a', b', rfl, hC5, ho5⟩
      have qj5 := only_cell' qj ho5 (by omega)
      have qr5 := only_cell' qr ho5 (by omega)
      have hacc5 := hacc.only ho5 (by omega)
      have o5 := o4.trans ho5
      have hlz5 : lo ≤ w5.heap.size := Nat.le_trans hlz ho5.size
      obtain ⟨z0, z1, f0, f1⟩ := box2 qj5
      have HQJ := Lib.hid qj5; have HQR := Lib.hid qr5; have HO5 := Lib.hid o5; clear qj qr o4 qj5 qr5 o5 hC4 hacc ho5
      have hj5 : j < w5.heap.size := by omega
      have hjne : j ≠ w5.heap.size := by omega
      have hacc6 := hacc5.alloc (.cells #[.int .i64 s', .int .i64 a', .int .i64 b'] 77)
      have hC6 := hC5.below ((Below.refl _ _).alloc (Nat.le_refl _) (.cells #[.int .i64 s', .int .i64 a', .int .i64 b'] 77))
      have HO6 := Lib.hid (HO5.out.trans (Only.of_below (lo := g) (hi := g + 1) ((Below.refl _ _).alloc (Nat.le_refl _) (.cells #[.int .i64 s', .int .i64 a', .int .i64 b'] 77))))
      have hlz6 : lo ≤ (w5.alloc (.cells #[.int .i64 s', .int .i64 a', .int .i64 b'] 77)).heap.size := by simp; omega
      have q6 : ∀ b, b < lo → (w5.alloc (.cells #[.int .i64 s', .int .i64 a', .int .i64 b'] 77)).heap[b]? = w5.heap[b]? := fun b hb => Below.heap_alloc _ _ b (by omega)
      go_wp2_with (at_builtin; refine wpList_acc1 rfl _ _ 28 rfl lo 77 (.agg #[.int .i64 0, .int .i64 0, .int .i64 0]) 3 24 Try.underlying28 infoCell rfl (by omega) sv cs cellC ⟨s', a', b'⟩ rfl hacc6 _ _ rfl _ rfl (by simp) rfl (by simp [cellC, Value.oneCell']) hln (by omega) hlz6 ?_; intro v7 w7 hacc7 hgrow7 hat7; have hch7 : ∀ b, b < lo → w7.heap[b]? = w5.heap[b]? := fun b hb => (hgrow7.block b (by omega) (fun e => by have := (hacc5.row e.symm).1; omega)).trans (q6 b hb); have f7 : w7.frozen? ⟨j, 1, none⟩ = false := frozen_of_row _ _ _ _ _ ((hch7 j hjl).trans HQJ.out); have c7 : w7.cell? ⟨j, 1, none⟩ = some sv := cell_blk z1 (hch7 j hjl); obtain ⟨A7, c7', e8, _, _⟩ := hacc7.own cellC_len; obtain ⟨L7, e7⟩ : ∃ L : Nat, v7 = .slice A7 L c7' := ⟨_, e8⟩; have E7 := Lib.hid e7; rw [e7]; clear e7 e8)
      go_roundw
      case rel =>
        rw [E7.out] at hacc7
        have q8 := row_set (o := 1) (.slice A7 L7 c7') ((hch7 j hjl).trans HQJ.out)
        have r8 := (row_far (w := w7) (b := j) (o := 1) (.slice A7 L7 c7') (show r ≠ j by omega)).trans ((hch7 r (by omega)).trans HQR.out)
        have a8 := acc_low hacc7 hjl (o := 1) (.slice A7 L7 c7')
        have o8 := only_setNew (only_grown HO6.out hgrow7 (fun q e => by have := (hacc5.row e).1; omega)) (show W.heap.size ≤ j by omega) (o := 1) (.slice A7 L7 c7')
        have C8 := (hC6.grow hgrow7 (fun e => by have := (hacc5.row e).1; omega) (fun q e => by have := (hacc5.row e).1; omega)).grow (grown_at _ j 1 (.slice A7 L7 c7')) (fun e => by have := Option.some.inj e; omega) (fun q e => by have := Option.some.inj e; omega)
        have s8 : lo ≤ (w7.setCell ⟨j, 1, none⟩ (.slice A7 L7 c7')).heap.size := by rw [set_size]; exact Nat.le_trans hlz6 hgrow7.size
        exact ⟨k + 1, _, _, by omega, by go_num, q8, r8, a8, by rw [List.length_append, HLEN.out]; rfl, C8, o8, s8⟩
      case measure => simp [intOf]; omega
    · obtain rfl : k = N := by omega
      have hkN : ¬ (k : Int) < (k : Int) := by omega
      have HLO := Lib.hid (show W.heap.size ≤ lo by omega)
      obtain ⟨y0, y1, _, _⟩ := box2 qj
      obtain ⟨A7, c7, e7, _, _⟩ := hacc.own cellC_len
      obtain ⟨L7, e8⟩ : ∃ L : Nat, sv = .slice A7 L c7 := ⟨_, e7⟩
      subst e8; clear e7
      have Y := box2 (row_set (o := 1) (.slice A7 L7 c7) (row_set (o := 0) (.int .i64 s) qr))
      have Y0 := Lib.hid Y.1; have Y1 := Lib.hid Y.2.1
      have hlr : ∀ q, Value.ownBlock (.slice A7 L7 c7) = some q → (some r : Option Nat) ≠ some q := fun q e h => by have h1 := (hacc.row e).1; have h2 := Option.some.inj h; omega
      have HA := Lib.hid ((hacc.kept (grown_at _ r 0 (.int .i64 s)) hlr).kept (grown_at _ r 1 (.slice A7 L7 c7)) hlr)
      have cn : ∀ k, some r = some k → W0.heap.size ≤ k := fun k e => by have := Option.some.inj e; omega
      have cg : (some r : Option Nat) ≠ some g := fun e => by have := Option.some.inj e; omega
      have HC := Lib.hid ((hC4.grow (grown_at _ r 0 (.int .i64 s)) cg cn).grow (grown_at _ r 1 (.slice A7 L7 c7)) cg cn)
      have HO := Lib.hid (only_setNew (only_setNew o4 hrW (o := 0) (.int .i64 s)) hrW (o := 1) (.slice A7 L7 c7))
      obtain ⟨z0, z1, f0, f1⟩ := box2 qr
      clear Y hlr cn cg hC4 o4 hacc hrW hsa qr qj
      go_wp2
      exact bodyPost_ret (v := .agg #[.int .i64 s, (.slice A7 L7 c7)]) (by simp [results, Try.results72, go_sem, Y0.out, Y1.out]) rfl ⟨_, _, _, rfl, HA.out.mono HLO.out, by have := HLEN.out; omega, by have := HLEN.out; omega, HC.out, HO.out⟩

end Go.Proofs.Ytkbpehklfjnjjaa
