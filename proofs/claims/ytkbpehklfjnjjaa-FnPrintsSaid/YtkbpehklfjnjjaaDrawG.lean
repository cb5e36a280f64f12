/-
  Drawn kinds of print, and what is drawn for FnPrints: a block and kinds, of no matter which.
-/
import Derived.Test.YtkbpehklfjnjjaaDrawF
import Derived.Test.YtkbpehklfjnjjaaLineB
set_option linter.unusedVariables false
set_option linter.unusedSimpArgs false
namespace Go.Proofs.Ytkbpehklfjnjjaa
open Go.RowKit

def IntsRd (W0 W : World) (g : Nat) (A : Option Addr) (n : Nat) (xs : List UInt8) (e : Ending) (w' : World) : Prop :=
  ∃ (B : Option Addr) (m d : Nat) (ks : List Int), e = .returned (.slice B m d) ∧ RdIn W.heap.size w' B m 1 ks intC ∧ m ≤ 6 ∧ Cur W0 w' g A n xs ∧ Only g (g + 1) W w'

set_option maxRecDepth 100000 in
set_option maxHeartbeats 1000000 in
theorem l16Kinds_any (W0 : World) (g : Nat) (A : Option Addr) (n : Nat) (xs : List UInt8) (W : World) (hC : Cur W0 W g A n xs) :
    Calls Try.prog 66 #[.pointer (some ⟨g, 0, none⟩)] W (IntsRd W0 W g A n xs) := by
  have hgW := hC.lt
  have hW0 := hC.base.size
  obtain ⟨wa, hwa⟩ : ∃ v, Hid (W.alloc (.cells #[] 3) = v) := ⟨_, rfl⟩
  have bwa : Below W.heap.size W wa := by rw [← hwa.out]; exact (Below.refl _ _).alloc (Nat.le_refl _) _
  have hacc0 : Acc wa W.heap.size 3 1 (.slice (some ⟨W.heap.size, 0, none⟩) 0 0) ([] : List Int) intC := by rw [← hwa.out]; exact Acc.lit0 W _ _ 1 intC (Nat.le_refl _) rfl
  have hCa := hC.below bwa
  have hoa : Only g (g + 1) W wa := Only.of_below bwa
  have hza := bwa.size
  go_enter Try.func66, Try.ntmps66
  go_wp2_with fail
  rw [hwa.out]
  go_loopw [3, 4] (fun o i wr => ∃ (k : Nat) (cs : List Int), k ≤ 6 ∧ i = .int .i64 (k : Int) ∧ Acc wr W.heap.size 3 1 o cs intC ∧ cs.length = k ∧ Cur W0 wr g A n xs ∧ Only g (g + 1) W wr) (fun _ i _ => 6 - (intOf i).toNat)
  case atStart => exact ⟨0, [], by omega, rfl, hacc0, rfl, hCa, hoa⟩
  case round =>
    clear hacc0 hCa hoa hza bwa hC
    obtain ⟨k, cs, hk, rfl, hacc, hlen, hC3, o3⟩ := hrel
    have hz3 := o3.size
    have HLEN := Lib.hid hlen; clear hlen
    by_cases hlt : k < 6
    · have hln : cs.length + 1 ≤ 4294967296 := by have := HLEN.out; omega
      have hkI : (k : Int) < 6 := by omega
      obtain ⟨wl, hwl⟩ : ∃ v, Hid (wr.alloc (.cells #[.int .i64 0, .int .i64 0, .int .i64 1, .int .i64 2] 3) = v) := ⟨_, rfl⟩
      obtain ⟨i, hi⟩ : ∃ j, Hid (wr.heap.size = j) := ⟨_, rfl⟩
      have ri : wl.heap[i]? = some (.cells #[.int .i64 0, .int .i64 0, .int .i64 1, .int .i64 2] 3 (0, 0)) := by rw [← hwl.out, ← hi.out]; exact heap_alloc_new wr _
      have bwl : Below wr.heap.size wr wl := by rw [← hwl.out]; exact (Below.refl _ _).alloc (Nat.le_refl _) _
      have hig : g < i := by have := hi.out; omega
      have o4 := o3.trans (Only.of_below bwl)
      have hC4 := hC3.below bwl
      have hacc4 := hacc.below bwl
      have hz4 := bwl.size
      clear o3 hC3 bwl hacc
      go_wp2_with (first | rw [hwl.out] | rw [hi.out])
      refine (pickInt_any W0 g A n xs [0, 0, 1, 2] i _ _ hC4 ri (by omega) (by decide) (by decide)).mono ?_
      rintro e w5 ⟨y, rfl, _, hC5, ho5⟩
      have hacc5 := hacc4.only ho5 (by omega)
      have o5 := o4.trans ho5
      have hz5 : W.heap.size ≤ w5.heap.size := o5.size
      clear o4 hC4 hacc4 ho5 hz4 ri
      have HO5 := Lib.hid o5
      clear o5
      go_wp2_with (at_builtin; refine wpList_acc1 rfl _ _ 25 rfl W.heap.size 3 (.int .i64 0) 1 8 Try.underlying25 infoInt rfl (by omega) _ cs intC y rfl hacc5 _ _ rfl _ rfl (by simp) rfl (by simp [intC, Value.oneCell']) hln (by omega) hz5 ?_; intro v7 w7 hacc7 hgrow7 hat7)
      go_roundw
      case rel =>
        have o8 := only_grown HO5.out hgrow7 (fun q e => (hacc5.row e).1)
        have C8 := hC5.grow hgrow7 (fun e => by have := (hacc5.row e).1; omega) (fun q e => by have := (hacc5.row e).1; omega)
        exact ⟨k + 1, _, by omega, by go_num, hacc7, by rw [List.length_append, HLEN.out]; rfl, C8, o8⟩
      case measure => simp [intOf]; omega
    · obtain rfl : k = 6 := by omega
      obtain ⟨x0, hx0⟩ : ∃ x : Int, cs[0]? = some x := ⟨_, List.getElem?_eq_getElem (by have := HLEN.out; omega)⟩
      obtain ⟨G, c, hv, hG, hG2, hcB, hfB⟩ := hacc.cells_at intC_len hx0
      rw [HLEN.out] at hv
      subst hv
      have u0 := hcB 0 _ rfl; have f0 := hfB 0
      rw [Nat.zero_mul] at u0
      have HX0 := Lib.hid hx0; clear hx0 hcB hfB
      go_wp2_with fail
      refine (l01Below_any W0 g A n xs 12 _ hC3 (by omega)).mono ?_
      rintro e w4 ⟨x, rfl, hx, hC4, ho4⟩
      have hacc4 := hacc.only ho4 (by omega)
      have o4 := o3.trans ho4
      have hz4 := o4.size
      have hG4 : G < w4.heap.size := Nat.lt_of_lt_of_le hG2 ho4.size
      clear hx hC3 ho4 hacc o3 u0 f0
      by_cases h0 : x = 0
      · subst h0
        obtain ⟨wl, hwl⟩ : ∃ v, Hid (w4.alloc (.cells #[.int .i64 (-1), .int .i64 3] 3) = v) := ⟨_, rfl⟩
        obtain ⟨i, hi⟩ : ∃ j, Hid (w4.heap.size = j) := ⟨_, rfl⟩
        have ri : wl.heap[i]? = some (.cells #[.int .i64 (-1), .int .i64 3] 3 (0, 0)) := by rw [← hwl.out, ← hi.out]; exact heap_alloc_new w4 _
        have bwl : Below w4.heap.size w4 wl := by rw [← hwl.out]; exact (Below.refl _ _).alloc (Nat.le_refl _) _
        have hig : g < i := by have := hi.out; omega
        have o5 := o4.trans (Only.of_below bwl)
        have hC5 := hC4.below bwl
        have hacc5 := hacc4.below bwl
        clear o4 hC4 bwl hacc4
        go_wp2_with (first | rw [hwl.out] | rw [hi.out])
        refine (pickInt_any W0 g A n xs [-1, 3] i _ _ hC5 ri (by omega) (by decide) (by decide)).mono ?_
        rintro e w6 ⟨y, rfl, _, hC6, ho6⟩
        have hacc6 := hacc5.only ho6 (by omega)
        have o6 := o5.trans ho6
        obtain ⟨gb, cgb, ev, _, _, hcB, hfB⟩ := hacc6.cells_at intC_len HX0.out
        injection ev with ev1 ev3 ev4
        injection ev1 with ev1
        injection ev1 with ev1 _ _
        subst ev1
        have u0 := hcB 0 _ rfl; have f0 := hfB 0
        rw [Nat.zero_mul] at u0
        have hp := (Acc.put (p := 0) (j := 0) (x := x0) (y := y) (u := .int .i64 y) (by rw [← HLEN.out] at hacc6; exact hacc6) intC_len HX0.out (by omega) rfl).1
        rw [HLEN.out] at hp
        simp only [Nat.zero_mul, Nat.add_zero] at hp
        have HR := Lib.hid (RdIn.of_acc hp intC_len)
        have HC := Lib.hid (hC6.grow (grown_at _ G 0 (.int .i64 y)) (fun e => by have := Option.some.inj e; omega) (fun q e => by have := Option.some.inj e; omega))
        have HO := Lib.hid (only_setNew o6 (show W.heap.size ≤ G by omega) (o := 0) (.int .i64 y))
        clear o5 hC5 hacc5 ho6 hacc6 o6 hC6 hcB hfB ev3 ev4 hp ri
        go_wp2_with fail
        go_ret
        exact ⟨_, _, _, _, rfl, HR.out, by omega, HC.out, HO.out⟩
      by_cases h1 : x = 1
      · subst h1
        obtain ⟨y, cs', rfl⟩ : ∃ y cs', cs = y :: cs' := by cases cs with | nil => (have := HLEN.out; simp at this) | cons y l => exact ⟨y, l, rfl⟩
        have hl5 : cs'.length = 5 := by have := HLEN.out; simp at this; omega
        have hrd := RdIn.of_acc hacc4 intC_len
        have hrd2 : RdIn W.heap.size w4 (some ⟨G, 0 + 1, none⟩) 5 1 cs' intC := by rw [← hl5]; exact RdIn.tail (by rw [hl5]; exact hrd)
        have hc6 : 6 ≤ c := by obtain ⟨A', c', e, h, _⟩ := hacc4.own intC_len; injection e with e1 e2 e3; omega
        have HR := Lib.hid hrd2
        have hc61 : ¬ c = 1 := by omega
        clear hrd hrd2 hl5 h0
        go_wp2_with fail
        go_ret
        exact ⟨_, _, _, _, rfl, HR.out, by omega, hC4, o4⟩
      have e0 : (x == 0) = false := by simpa using h0
      have e1 : (x == 1) = false := by simpa using h1
      have HR := Lib.hid (RdIn.of_acc hacc4 intC_len)
      go_wp2_with fail
      go_ret
      exact ⟨_, _, _, _, rfl, HR.out, by omega, hC4, o4⟩

def SeeOut (W : World) (e : Ending) (w' : World) : Prop :=
  ∃ (s : Int) (B : Option Addr) (m d : Nat) (cs : List Cell) (B2 : Option Addr) (m2 d2 : Nat) (ks : List Int) (k : Int), e = .returned (.tuple #[.agg #[.int .i64 s, .slice B m d], .slice B2 m2 d2, .int .i64 k]) ∧ RdIn W.heap.size w' B m 3 cs cellC ∧ m ≤ 16 ∧ RdIn W.heap.size w' B2 m2 1 ks intC ∧ m2 ≤ 6 ∧ Below W.heap.size W w'
set_option maxRecDepth 100000 in
set_option maxHeartbeats 1000000 in
theorem drawSee_any (A : Option Addr) (n c : Nat) (xs : List UInt8) (W : World) (hR : Rd W A n 1 xs byteC) (hn : n ≤ 1048576) :
    Calls Try.prog 52 #[.slice A n c] W (SeeOut W) := by
  obtain ⟨wa, hwa⟩ : ∃ v, Hid (W.alloc (.cells #[.int .i64 0, .slice none 0 0] 30) = v) := ⟨_, rfl⟩
  obtain ⟨r, hr⟩ : ∃ j, Hid (W.heap.size = j) := ⟨_, rfl⟩
  have rr : wa.heap[r]? = some (.cells #[.int .i64 0, .slice none 0 0] 30 (0, 0)) := by rw [← hwa.out, ← hr.out]; exact heap_alloc_new W _
  have bwa : Below W.heap.size W wa := by rw [← hwa.out]; exact (Below.refl _ _).alloc (Nat.le_refl _) _
  have hrW : W.heap.size ≤ r := by have := hr.out; omega
  have hsa : wa.heap.size = r + 1 := by rw [← hwa.out, ← hr.out]; simp
  have hRa := hR.below bwa
  have HBA := Lib.hid bwa
  clear bwa hR
  go_enter Try.func52, Try.ntmps52
  go_wp2_with (first | rw [hwa.out] | rw [hr.out])
  refine (l01New_any A n c xs _ hRa hn).mono ?_
  rintro e w1 ⟨g, rfl, hC1⟩
  have r1 := (hC1.base.block r (heap_lt rr)).trans rr
  have hg1 := hC1.le
  have hg2 := hC1.lt
  have hz1 := hC1.base.size
  clear rr hRa
  go_wp2_with fail
  refine (l03Any_any wa g A n xs _ hC1).mono ?_
  rintro e w2 ⟨s, B, m, d, cs, rfl, hrd2, hm, hC2, ho2⟩
  have r2 := only_cell' r1 ho2 (by omega)
  obtain ⟨wb, hwb⟩ : ∃ v, Hid (w2.alloc (.cells #[.int .i64 s, .slice B m d] 30) = v) := ⟨_, rfl⟩
  obtain ⟨j, hj⟩ : ∃ j, Hid (w2.heap.size = j) := ⟨_, rfl⟩
  have rj : wb.heap[j]? = some (.cells #[.int .i64 s, .slice B m d] 30 (0, 0)) := by rw [← hwb.out, ← hj.out]; exact heap_alloc_new w2 _
  have bwb : Below w2.heap.size w2 wb := by rw [← hwb.out]; exact (Below.refl _ _).alloc (Nat.le_refl _) _
  have hz2 := ho2.size
  have hjr : r < j := by have := hj.out; omega
  have r3 := (bwb.block r (heap_lt r2)).trans r2
  have hC3 := hC2.below bwb
  have hrd3 := hrd2.only (Only.of_below (lo := g) (hi := g + 1) bwb) (by omega)
  have hz3 := bwb.size
  clear r1 hC1 r2 hC2 ho2 hrd2 bwb
  go_wp2_with fail
  rw [hwb.out, hj.out]
  refine (l16Kinds_any wa g A n xs _ hC3).mono ?_
  rintro e w4 ⟨B2, m2, d2, ks, rfl, hrd4, hm2, hC4, ho4⟩
  have r4 := only_cell' r3 ho4 (by omega)
  have j4 := only_cell' rj ho4 (by have := hj.out; omega)
  have hrdb := hrd3.only ho4 (by omega)
  have hz4 := ho4.size
  obtain ⟨x0, x1, _, _⟩ := box2 j4
  obtain ⟨z0, z1, f0, f1⟩ := box2 r4
  have hj4 : j < w4.heap.size := heap_lt j4
  have hjg : j ≠ g := by have := hj.out; omega
  have hrg : r ≠ g := by omega
  have hr4 : r < w4.heap.size := heap_lt r4
  have d4 := hC4.below (Below.refl _ w4).drew
  have RR4 := Lib.hid r4; have RD := Lib.hid hrdb; have RD4 := Lib.hid hrd4; clear r4 j4 hrdb hrd4 hrd3 r3 rj ho4 hC3 hC4
  have hjr' : j ≠ r := by omega
  go_wp2_with fail
  go_region_held3 (fun v => v.cell? ⟨j, 0, none⟩ = some (.int .i64 s) ∧ v.cell? ⟨j, 1, none⟩ = some (.slice B m d)) (first | exact ⟨x0, x1⟩ | exact ⟨k0, k1⟩ | exact ⟨cell_set_far (cell_set_far k0 hjr') hjr', cell_set_far (cell_set_far k1 hjr') hjr'⟩ | go_keep) ((go_at_call 67; refine (l01Below_any wa g A n xs 6 _ d4 (by omega)).mono ?_; rintro e w5 ⟨p, rfl, hp, hC5, ho5⟩; have k0 : w5.cell? ⟨j, 0, none⟩ = some (.int .i64 s) := cell_blk x0 (ho5.block j hj4 (by omega)); have k1 : w5.cell? ⟨j, 1, none⟩ = some (.slice B m d) := cell_blk x1 (ho5.block j hj4 (by omega)); have hp0 := hp.1; have hp1 := hp.2.1 (by omega); have q5 := only_cell' RR4.out ((only_drew (Only.refl g (g + 1) w4)).trans ho5) (by omega); obtain ⟨y0, y1, g0, g1⟩ := box2 q5; have Q5 := Lib.hid q5; clear q5))
  have Y := box2 (row_set (o := 1) (.slice B m d) (row_set (o := 0) (.int .i64 s) Q5.out))
  have Y0 := Lib.hid Y.1; have Y1 := Lib.hid Y.2.1
  have oo := (only_drew (Only.refl g (g + 1) w4)).trans ho5
  have HR1 := Lib.hid ((((RD.out.only oo (by omega)).only (Only.of_row (grown_at _ r 0 (.int .i64 s)) (Nat.le_refl r) (Nat.lt_succ_self r)) (by omega)).only (Only.of_row (grown_at _ r 1 (.slice B m d)) (Nat.le_refl r) (Nat.lt_succ_self r)) (by omega)).mono (show W.heap.size ≤ w1.heap.size by omega))
  have HR2 := Lib.hid ((((RD4.out.only oo (by omega)).only (Only.of_row (grown_at _ r 0 (.int .i64 s)) (Nat.le_refl r) (Nat.lt_succ_self r)) (by omega)).only (Only.of_row (grown_at _ r 1 (.slice B m d)) (Nat.le_refl r) (Nat.lt_succ_self r)) (by omega)).mono (show W.heap.size ≤ wb.heap.size by omega))
  have hbz := HBA.out.trans (hC5.base.mono (show W.heap.size ≤ wa.heap.size by omega))
  have HBB := Lib.hid ((hbz.setCell (p := ⟨r, 0, none⟩) hrW (.int .i64 s)).setCell (p := ⟨r, 1, none⟩) hrW (.slice B m d))
  clear Y oo hbz
  go_wp2
  exact bodyPost_ret (v := .tuple #[.agg #[.int .i64 s, (.slice B m d)], .slice B2 m2 d2, .int .i64 (IntKind.i64.wrap (p - 1))]) (by simp [results, Try.results52, go_sem, Y0.out, Y1.out]) rfl ⟨_, _, _, _, _, _, _, _, _, _, rfl, HR1.out, hm, HR2.out, hm2, HBB.out⟩

def TurnsOut (W : World) (e : Ending) (w' : World) : Prop :=
  ∃ (s : Int) (B : Option Addr) (m d : Nat) (cs : List Cell) (B2 : Option Addr) (m2 d2 : Nat) (ks : List Int), e = .returned (.tuple #[.agg #[.int .i64 s, .slice B m d], .slice B2 m2 d2]) ∧ Rd w' B m 3 cs cellC ∧ m ≤ 16 ∧ Rd w' B2 m2 1 ks intC ∧ m2 ≤ 6 ∧ Below W.heap.size W w'
set_option maxRecDepth 100000 in
set_option maxHeartbeats 1000000 in
theorem drawTurns_any (A : Option Addr) (n c : Nat) (xs : List UInt8) (W : World) (hR : Rd W A n 1 xs byteC) (hn : n ≤ 1048576) :
    Calls Try.prog 24 #[.slice A n c] W (TurnsOut W) := by
  obtain ⟨wa, hwa⟩ : ∃ v, Hid (W.alloc (.cells #[.int .i64 0, .slice none 0 0] 30) = v) := ⟨_, rfl⟩
  obtain ⟨r, hr⟩ : ∃ j, Hid (W.heap.size = j) := ⟨_, rfl⟩
  have rr : wa.heap[r]? = some (.cells #[.int .i64 0, .slice none 0 0] 30 (0, 0)) := by rw [← hwa.out, ← hr.out]; exact heap_alloc_new W _
  have bwa : Below W.heap.size W wa := by rw [← hwa.out]; exact (Below.refl _ _).alloc (Nat.le_refl _) _
  have hrW : W.heap.size ≤ r := by have := hr.out; omega
  have hsa : wa.heap.size = r + 1 := by rw [← hwa.out, ← hr.out]; simp
  have hRa := hR.below bwa
  have HBA := Lib.hid bwa
  clear bwa hR
  go_enter Try.func24, Try.ntmps24
  go_wp2_with (first | rw [hwa.out] | rw [hr.out])
  refine (drawSee_any A n c xs _ hRa hn).mono ?_
  rintro e w1 ⟨s, B, m, d, cs, B2, m2, d2, ks, k, rfl, hrd, hm, hrd2, hm2, hb1⟩
  have r1 := (hb1.block r (heap_lt rr)).trans rr
  have hs1 := heap_lt r1
  have q5 := row_set (o := 1) (.slice B m d) (row_set (o := 0) (.int .i64 s) r1)
  have Y := box2 ((Below.heap_alloc ((w1.setCell ⟨r, 0, none⟩ (.int .i64 s)).setCell ⟨r, 1, none⟩ (.slice B m d)) (.cells #[.int .i64 s, .slice B m d] 30) r (by rw [set_size, set_size]; exact hs1)).trans q5)
  have Y0 := Lib.hid Y.1; have Y1 := Lib.hid Y.2.1
  have HR1 := Lib.hid (((hrd.only (Only.of_row (grown_at _ r 0 (.int .i64 s)) (Nat.le_refl r) (Nat.lt_succ_self r)) (by omega)).only (Only.of_row (grown_at _ r 1 (.slice B m d)) (Nat.le_refl r) (Nat.lt_succ_self r)) (by omega)).only (Only.of_below (lo := r) (hi := r + 1) ((Below.refl _ _).alloc (Nat.le_refl _) (.cells #[.int .i64 s, .slice B m d] 30))) (by omega)).rd
  have HR2 := Lib.hid (((hrd2.only (Only.of_row (grown_at _ r 0 (.int .i64 s)) (Nat.le_refl r) (Nat.lt_succ_self r)) (by omega)).only (Only.of_row (grown_at _ r 1 (.slice B m d)) (Nat.le_refl r) (Nat.lt_succ_self r)) (by omega)).only (Only.of_below (lo := r) (hi := r + 1) ((Below.refl _ _).alloc (Nat.le_refl _) (.cells #[.int .i64 s, .slice B m d] 30))) (by omega)).rd
  have hbz := HBA.out.trans (hb1.mono (show W.heap.size ≤ wa.heap.size by omega))
  have hbz2 := (hbz.setCell (p := ⟨r, 0, none⟩) hrW (.int .i64 s)).setCell (p := ⟨r, 1, none⟩) hrW (.slice B m d)
  have HBB := Lib.hid (hbz2.alloc hbz2.size (.cells #[.int .i64 s, .slice B m d] 30))
  obtain ⟨z0, z1, f0, f1⟩ := box2 r1
  have hne : r ≠ w1.heap.size := by omega
  clear Y hbz hbz2 q5 hrd hrd2 r1 hb1 rr hRa
  go_wp2
  exact bodyPost_ret (v := .tuple #[.agg #[.int .i64 s, (.slice B m d)], .slice B2 m2 d2]) (by simp [results, Try.results24, go_sem, Y0.out, Y1.out]) rfl ⟨_, _, _, _, _, _, _, _, _, rfl, HR1.out, hm, HR2.out, hm2, HBB.out⟩

end Go.Proofs.Ytkbpehklfjnjjaa
