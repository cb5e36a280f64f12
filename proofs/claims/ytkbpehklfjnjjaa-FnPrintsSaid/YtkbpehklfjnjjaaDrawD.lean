/-
  Drawn blocks: what cells they hold is of no matter.
-/
import Derived.Test.YtkbpehklfjnjjaaDrawC
import Derived.Test.YtkbpehklfjnjjaaBlkB
import Derived.Deep.RegionLaw
set_option linter.unusedVariables false
set_option linter.unusedSimpArgs false
namespace Go.Proofs.Ytkbpehklfjnjjaa
open Go.RowKit

theorem Acc.lit {α : Type} (w : World) (lo : Nat) (e : TypeId) (sz : Nat) (xs : List α) (cells : α → List Value) (cs : Array Value) (hcs : cs.toList = xs.flatMap cells) (h : lo ≤ w.heap.size) (hl : xs.length ≤ maxLen) (hs : cs.size = xs.length * sz) {g : Nat} (hg : g = w.heap.size) :
    Acc (w.alloc (.cells cs e)) lo e sz (.slice (some ⟨g, 0, none⟩) xs.length xs.length) xs cells := by
  subst hg
  have := World.ownsRow_lit (base := lo) (e := e) (size := sz) w cs xs.length h hl hs
  unfold Acc
  rw [← hcs]
  simpa using this
theorem cell_blk {w w' : World} {b o : Nat} {v : Value} (h : w.cell? ⟨b, o, none⟩ = some v) (e : w'.heap[b]? = w.heap[b]?) : w'.cell? ⟨b, o, none⟩ = some v := (World.cell?_of_block (a := ⟨b, o, none⟩) e).trans h
theorem fz_blk {w w' : World} {b o : Nat} (h : w.frozen? ⟨b, o, none⟩ = false) (e : w'.heap[b]? = w.heap[b]?) : w'.frozen? ⟨b, o, none⟩ = false := (World.frozen?_of_block (a := ⟨b, o, none⟩) e).trans h
theorem infoCell : (Try.prog.info? 77).map (fun i => (i.zero, i.size, i.bytes)) = some (some (.agg #[.int .i64 0, .int .i64 0, .int .i64 0]), 3, 24) := by kernel_rfl
theorem box2 {w : World} {r : Nat} {u0 u1 : Value} {T : TypeId} (h : w.heap[r]? = some (.cells #[u0, u1] T (0, 0))) :
    w.cell? ⟨r, 0, none⟩ = some u0 ∧ w.cell? ⟨r, 1, none⟩ = some u1 ∧ w.frozen? ⟨r, 0, none⟩ = false ∧ w.frozen? ⟨r, 1, none⟩ = false :=
  ⟨by rw [cell_of_row _ _ _ _ _ _ h]; rfl, by rw [cell_of_row _ _ _ _ _ _ h]; rfl, frozen_of_row _ _ _ _ _ h, frozen_of_row _ _ _ _ _ h⟩

def BlkOut (W : World) (e : Ending) (w' : World) : Prop :=
  ∃ (s : Int) (v : Value) (cs : List Cell), e = .returned (.agg #[.int .i64 s, v]) ∧ Acc w' W.heap.size 77 3 v cs cellC ∧ 1 ≤ cs.length ∧ cs.length ≤ 16 ∧ Below W.heap.size W w'
def BlkOut2 (W : World) (e : Ending) (w' : World) : Prop :=
  ∃ (s : Int) (v : Value) (cs : List Cell), e = .returned (.tuple #[.agg #[.int .i64 s, v], .bool true]) ∧ Acc w' W.heap.size 77 3 v cs cellC ∧ 1 ≤ cs.length ∧ cs.length ≤ 16 ∧ Below W.heap.size W w'

theorem starS_any (W : World) : Calls Try.prog 76 #[] W (BlkOut W) := by
  obtain ⟨wa, hwa⟩ : ∃ v, Hid (W.alloc (.cells #[.int .i64 0, .slice none 0 0] 30) = v) := ⟨_, rfl⟩
  obtain ⟨r, hr⟩ : ∃ j, Hid (W.heap.size = j) := ⟨_, rfl⟩
  have rr : wa.heap[r]? = some (.cells #[.int .i64 0, .slice none 0 0] 30 (0, 0)) := by rw [← hwa.out, ← hr.out]; exact heap_alloc_new W _
  have bwa : Below W.heap.size W wa := by rw [← hwa.out]; exact (Below.refl _ _).alloc (Nat.le_refl _) _
  have hrW : W.heap.size ≤ r := by have := hr.out; omega
  go_enter Try.func76, Try.ntmps76
  go_wp2_with (first | rw [hwa.out] | rw [hr.out])
  refine (wholeS_any 1 _).mono ?_
  rintro e w1 ⟨s', a', b', rfl, hb1⟩
  have r1 := (hb1.block r (heap_lt rr)).trans rr
  have B1 := bwa.trans (hb1.mono bwa.size)
  have hr1 := heap_lt r1
  have hz0 : ((w1.setCell ⟨r, 0, none⟩ (.int .i64 3)).setCell ⟨r, 1, none⟩ (.slice (some ⟨w1.heap.size + 1, 0, none⟩) 9 9)).heap.size = w1.heap.size := by rw [set_size, set_size]
  have hz : w1.heap.size + 1 = (((w1.setCell ⟨r, 0, none⟩ (.int .i64 3)).setCell ⟨r, 1, none⟩ (.slice (some ⟨w1.heap.size + 1, 0, none⟩) 9 9)).alloc (.cells #[.int .i64 s', .int .i64 a', .int .i64 b'] 77)).heap.size := by rw [← hz0]; simp
  have HA : Hid (Acc ((((w1.setCell ⟨r, 0, none⟩ (.int .i64 3)).setCell ⟨r, 1, none⟩ (.slice (some ⟨w1.heap.size + 1, 0, none⟩) 9 9)).alloc (.cells #[.int .i64 s', .int .i64 a', .int .i64 b'] 77)).alloc (.cells #[.int .i64 1, .int .i64 0, .int .i64 1, .int .i64 s', .int .i64 a', .int .i64 b', .int .i64 2, .int .i64 1, .int .i64 0, .int .i64 s', .int .i64 a', .int .i64 b', .int .i64 s', .int .i64 a', .int .i64 b', .int .i64 s', .int .i64 a', .int .i64 b', .int .i64 2, .int .i64 0, .int .i64 1, .int .i64 s', .int .i64 a', .int .i64 b', .int .i64 1, .int .i64 1, .int .i64 0] 77)) (w1.heap.size + 1) 77 3 (.slice (some ⟨w1.heap.size + 1, 0, none⟩) 9 9) ([⟨1, 0, 1⟩, ⟨s', a', b'⟩, ⟨2, 1, 0⟩, ⟨s', a', b'⟩, ⟨s', a', b'⟩, ⟨s', a', b'⟩, ⟨2, 0, 1⟩, ⟨s', a', b'⟩, ⟨1, 1, 0⟩] : List Cell) cellC) := Lib.hid (Acc.lit (((w1.setCell ⟨r, 0, none⟩ (.int .i64 3)).setCell ⟨r, 1, none⟩ (.slice (some ⟨w1.heap.size + 1, 0, none⟩) 9 9)).alloc (.cells #[.int .i64 s', .int .i64 a', .int .i64 b'] 77)) _ 77 3 ([⟨1, 0, 1⟩, ⟨s', a', b'⟩, ⟨2, 1, 0⟩, ⟨s', a', b'⟩, ⟨s', a', b'⟩, ⟨s', a', b'⟩, ⟨2, 0, 1⟩, ⟨s', a', b'⟩, ⟨1, 1, 0⟩] : List Cell) cellC #[.int .i64 1, .int .i64 0, .int .i64 1, .int .i64 s', .int .i64 a', .int .i64 b', .int .i64 2, .int .i64 1, .int .i64 0, .int .i64 s', .int .i64 a', .int .i64 b', .int .i64 s', .int .i64 a', .int .i64 b', .int .i64 s', .int .i64 a', .int .i64 b', .int .i64 2, .int .i64 0, .int .i64 1, .int .i64 s', .int .i64 a', .int .i64 b', .int .i64 1, .int .i64 1, .int .i64 0] rfl (Nat.le_of_eq hz) (by simp [maxLen]) rfl hz)
  have B3 : Below W.heap.size W ((w1.setCell ⟨r, 0, none⟩ (.int .i64 3)).setCell ⟨r, 1, none⟩ (.slice (some ⟨w1.heap.size + 1, 0, none⟩) 9 9)) := (B1.setCell (p := ⟨r, 0, none⟩) hrW (.int .i64 3)).setCell (p := ⟨r, 1, none⟩) hrW (.slice (some ⟨w1.heap.size + 1, 0, none⟩) 9 9)
  have HB := Lib.hid ((B3.alloc B3.size (.cells #[.int .i64 s', .int .i64 a', .int .i64 b'] 77)).alloc (by rw [← hz]; have := B1.size; omega) (.cells #[.int .i64 1, .int .i64 0, .int .i64 1, .int .i64 s', .int .i64 a', .int .i64 b', .int .i64 2, .int .i64 1, .int .i64 0, .int .i64 s', .int .i64 a', .int .i64 b', .int .i64 s', .int .i64 a', .int .i64 b', .int .i64 s', .int .i64 a', .int .i64 b', .int .i64 2, .int .i64 0, .int .i64 1, .int .i64 s', .int .i64 a', .int .i64 b', .int .i64 1, .int .i64 1, .int .i64 0] 77))
  have HC := Lib.hid (show W.heap.size ≤ w1.heap.size + 1 by have := B1.size; omega)
  have q1 := row_set (o := 1) (.slice (some ⟨w1.heap.size + 1, 0, none⟩) 9 9) (row_set (o := 0) (.int .i64 3) r1)
  have q2 := (Below.heap_alloc ((w1.setCell ⟨r, 0, none⟩ (.int .i64 3)).setCell ⟨r, 1, none⟩ (.slice (some ⟨w1.heap.size + 1, 0, none⟩) 9 9)) (.cells #[.int .i64 s', .int .i64 a', .int .i64 b'] 77) r (by rw [hz0]; exact hr1)).trans q1
  have q3 := (Below.heap_alloc (((w1.setCell ⟨r, 0, none⟩ (.int .i64 3)).setCell ⟨r, 1, none⟩ (.slice (some ⟨w1.heap.size + 1, 0, none⟩) 9 9)).alloc (.cells #[.int .i64 s', .int .i64 a', .int .i64 b'] 77)) (.cells #[.int .i64 1, .int .i64 0, .int .i64 1, .int .i64 s', .int .i64 a', .int .i64 b', .int .i64 2, .int .i64 1, .int .i64 0, .int .i64 s', .int .i64 a', .int .i64 b', .int .i64 s', .int .i64 a', .int .i64 b', .int .i64 s', .int .i64 a', .int .i64 b', .int .i64 2, .int .i64 0, .int .i64 1, .int .i64 s', .int .i64 a', .int .i64 b', .int .i64 1, .int .i64 1, .int .i64 0] 77) r (by rw [← hz]; omega)).trans q2
  obtain ⟨z0, z1, f0, f1⟩ := box2 r1
  obtain ⟨y0, y1, _, _⟩ := box2 q3
  have Y0 := Lib.hid y0; have Y1 := Lib.hid y1
  clear rr bwa hb1 r1 B1 B3 hrW hz hz0 q1 q2 q3 y0 y1
  go_wp2
  exact bodyPost_ret (v := .agg #[.int .i64 3, (.slice (some ⟨w1.heap.size + 1, 0, none⟩) 9 9)]) (by simp [results, Try.results76, go_sem, Y0.out, Y1.out]) rfl ⟨_, _, _, rfl, HA.out.mono HC.out, by simp, by simp, HB.out⟩

set_option maxRecDepth 100000 in
theorem plainS_any (s x : Int) (N : Nat) (W : World) (hs1 : 1 ≤ s) (hs2 : s ≤ 4) (hN : s * s = (N : Int)) (hx1 : 0 ≤ x) (hx2 : x ≤ 5) : Calls Try.prog 77 #[.int .i64 s, .int .i64 x] W (BlkOut2 W) := by
  have hsq := sq_bd hs1 hs2
  have hN1 : 1 ≤ N := by omega
  have hN2 : N ≤ 16 := by omega
  have hw : IntKind.i64.wrap (s * s) = (N : Int) := by rw [hN, IntKind.wrap_i64]; omega
  have e1 : within s 1 4 = true := by rw [within_iff]; omega
  have e2 : within x 0 5 = true := by rw [within_iff]; omega
  obtain ⟨wa, hwa⟩ : ∃ v, Hid (W.alloc (.cells #[.int .i64 0, .slice none 0 0] 30) = v) := ⟨_, rfl⟩
  obtain ⟨r, hr⟩ : ∃ j, Hid (W.heap.size = j) := ⟨_, rfl⟩
  have rr : wa.heap[r]? = some (.cells #[.int .i64 0, .slice none 0 0] 30 (0, 0)) := by rw [← hwa.out, ← hr.out]; exact heap_alloc_new W _
  have bwa : Below W.heap.size W wa := by rw [← hwa.out]; exact (Below.refl _ _).alloc (Nat.le_refl _) _
  have hrW : W.heap.size ≤ r := by have := hr.out; omega
  obtain ⟨wb, hwb⟩ : ∃ v, Hid (wa.alloc (.cells #[.int .i64 s, .slice none 0 0] 30) = v) := ⟨_, rfl⟩
  obtain ⟨j, hj⟩ : ∃ j, Hid (wa.heap.size = j) := ⟨_, rfl⟩
  have rj : wb.heap[j]? = some (.cells #[.int .i64 s, .slice none 0 0] 30 (0, 0)) := by rw [← hwb.out, ← hj.out]; exact heap_alloc_new wa _
  have bwb : Below wa.heap.size wa wb := by rw [← hwb.out]; exact (Below.refl _ _).alloc (Nat.le_refl _) _
  have hrj : r < j := by have h1 := hj.out; have h2 := heap_lt rr; omega
  have r1 := (bwb.block r (heap_lt rr)).trans rr
  have B1 := bwa.trans (bwb.mono bwa.size)
  obtain ⟨lo, hlo⟩ : ∃ v, Hid (wb.heap.size = v) := ⟨_, rfl⟩
  have hjl : j < lo := by have h1 := hlo.out; have h2 := heap_lt rj; omega
  go_enter Try.func77, Try.ntmps77
  clear hsq hN
  go_wp2_with (first | (go_at_call 44; refine (l01In_any _ _ _ _).mono ?_; rintro e w' ⟨rfl, rfl⟩; (first | rw [e1] | rw [e2])) | rw [hwa.out] | rw [hr.out])
  rw [hwb.out, hj.out]
  go_loopw [7] (fun i wr => ∃ (k : Nat) (sv : Value) (cs : List Cell), k ≤ N ∧ i = .int .i64 (k : Int) ∧ wr.heap[j]? = some (.cells #[.int .i64 s, sv] 30 (0, 0)) ∧ wr.heap[r]? = some (.cells #[.int .i64 0, .slice none 0 0] 30 (0, 0)) ∧ Acc wr lo 77 3 sv cs cellC ∧ cs.length = k ∧ Below W.heap.size W wr ∧ lo ≤ wr.heap.size) (fun i _ => N - (intOf i).toNat)
  case atStart => exact ⟨0, _, [], Nat.zero_le _, rfl, rj, r1, Acc.nil _ _ _ _ _, rfl, B1, by rw [hlo.out]; exact Nat.le_refl _⟩
  case round =>
    clear rr rj r1 B1 bwa bwb
    obtain ⟨k, sv, cs, hk, rfl, qj, qr, hacc, hlen, hB, hlz⟩ := hrel
    obtain ⟨z0, z1, f0, f1⟩ := box2 qj
    obtain ⟨y0, y1, g0, g1⟩ := box2 qr
    have HLEN := Lib.hid hlen
    clear hlen
    by_cases hlt : k < N
    · have hln : cs.length + 1 ≤ 4294967296 := by have := HLEN.out; omega
      have HQJ := Lib.hid qj; have HQR := Lib.hid qr; have HB := Lib.hid hB; clear qj qr hB
      have hkN : (k : Int) < (N : Int) := by omega
      have hjr : j < wr.heap.size := by omega
      go_wp2_with fail
      go_region_law (first | (go_simp; go_at_call 79; refine (wholeS_any _ _).mono ?_; rintro e w5 ⟨s', a', b', rfl, hb5⟩; have hz5 : wr.heap.size ≤ w5.heap.size := hb5.size; have hj5 : j < w5.heap.size := Nat.lt_of_lt_of_le hjr hz5; have l5 : w5.cell? ⟨j, 1, none⟩ = some sv := keepcell (w := World.drew wr) z1 hb5) | (refine step_acc1 rfl _ _ 28 rfl lo 77 (.agg #[.int .i64 0, .int .i64 0, .int .i64 0]) 3 24 Try.underlying28 infoCell rfl (by omega) sv cs cellC ⟨s', a', b'⟩ (by simp [Act.eval, Act.put]) ((hacc.drew.below hb5).alloc _) _ _ _ _ (heap_alloc_new _ _) rfl (by simp [Act.eval, Act.put]) rfl (by simp [cellC, Value.oneCell']) hln (by omega) (by simp; exact Nat.le_trans hlz (Nat.le_trans hz5 (Nat.le_succ _))) _ rfl ?_; intro v7 w7 hacc7 hgrow7 hat7 hk7; have hch7 : ∀ g, g < lo → w7.heap[g]? = wr.heap[g]? := fun g hg => (hgrow7.block g (Nat.lt_of_lt_of_le (show g < w5.heap.size by omega) ((Below.refl _ _).alloc (Nat.le_refl _) _ : Below w5.heap.size w5 _).size) (fun e => by have := (hacc.row e.symm).1; omega)).trans ((Below.heap_alloc _ _ g (show g < w5.heap.size by omega)).trans (hb5.block g (show g < wr.heap.size by omega))); have f7 : w7.frozen? ⟨j, 1, none⟩ = false := frozen_of_row _ _ _ _ _ ((hch7 j hjl).trans HQJ.out); have c7 : w7.cell? ⟨j, 1, none⟩ = some sv := cell_blk z1 (hch7 j hjl); obtain ⟨A7, c7', e8, _, _⟩ := hacc7.own cellC_len; obtain ⟨L7, e7⟩ : ∃ L : Nat, v7 = .slice A7 L c7' := ⟨_, e8⟩; have E7 := Lib.hid e7; rw [e7]; clear e7 e8))
      all_goals
        obtain ⟨w8, hw8⟩ : ∃ v, Hid (w7.setCell ⟨j, 1, none⟩ (.slice A7 L7 c7') = v) := ⟨_, rfl⟩
        rw [hw8.out]
        rw [E7.out] at hacc7
        have q8 := row_set (o := 1) (.slice A7 L7 c7') ((hch7 j hjl).trans HQJ.out)
        have r8 := (row_far (w := w7) (b := j) (o := 1) (.slice A7 L7 c7') (show r ≠ j by omega)).trans ((hch7 r (by omega)).trans HQR.out)
        have a8 := acc_low hacc7 hjl (o := 1) (.slice A7 L7 c7')
        have hB5 := (HB.out.drew.trans (hb5.mono HB.out.size)).alloc (Nat.le_trans HB.out.size hz5) (.cells #[.int .i64 s', .int .i64 a', .int .i64 b'] 77)
        have B8 := (((hacc.drew.below hb5).alloc _).grow_below hB5 hgrow7 (by have := hlo.out; have := hj.out; omega) hB5.size).setCell (p := ⟨j, 1, none⟩) (show W.heap.size ≤ j by omega) (.slice A7 L7 c7')
        have s8 : lo ≤ (w7.setCell ⟨j, 1, none⟩ (.slice A7 L7 c7')).heap.size := by rw [set_size]; have h1 := hgrow7.size; simp at h1; omega
        rw [hw8.out] at q8 r8 a8 B8 s8
        go_wp2_with fail
        go_roundw
        case rel => exact ⟨k + 1, _, _, by omega, by go_num, q8, r8, a8, by rw [List.length_append, HLEN.out]; rfl, B8, s8⟩
        case measure => simp [intOf]; omega
    · obtain rfl : k = N := by omega
      have hkN : ¬ (k : Int) < (k : Int) := by omega
      have Y := box2 (row_set (o := 1) sv (row_set (o := 0) (.int .i64 s) qr))
      have y0' := Lib.hid Y.1; have y1' := Lib.hid Y.2.1
      have HA := Lib.hid (acc_low (acc_low hacc (show r < lo by omega) (o := 0) (.int .i64 s)) (show r < lo by omega) (o := 1) sv)
      have HB := Lib.hid ((hB.setCell (p := ⟨r, 0, none⟩) hrW (.int .i64 s)).setCell (p := ⟨r, 1, none⟩) hrW sv)
      have HL := Lib.hid (show W.heap.size ≤ lo by have := hlo.out; omega)
      clear Y qj qr hB
      obtain ⟨A7, c7, e7, _, _⟩ := hacc.own cellC_len
      obtain ⟨L7, e8⟩ : ∃ L : Nat, sv = .slice A7 L c7 := ⟨_, e7⟩
      subst e8; clear e7
      go_wp2
      exact bodyPost_ret (v := .tuple #[.agg #[.int .i64 s, .slice A7 L7 c7], .bool true]) (by simp [results, Try.results77, go_sem, y0'.out, y1'.out]) rfl ⟨_, _, _, rfl, HA.out.mono HL.out, by have := HLEN.out; omega, by have := HLEN.out; omega, HB.out⟩

end Go.Proofs.Ytkbpehklfjnjjaa
