/-
  Contracts over units: the rectangles that joins make, and the lengths of their seams.
-/
import Derived.Test.YtmjdgplkcocgmaaUniA
import Derived.Test.YtmjdgplkcocgmaaZWords
set_option linter.unusedVariables false
namespace Go.Proofs.Ytmjdgplkcocgmaa
open Go.RowKit

theorem infoPatch : (Try.prog.info? 44).map (fun i => (i.zero, i.size, i.bytes)) = some (some (.agg #[.int .i64 0, .int .i64 0, .int .i64 0, .int .i64 0, .int .i64 0]), 5, 40) := by kernel_rfl
theorem patchC_one (y : Patch) : ∀ u ∈ patchC y, u.oneCell' = true := fun u hu => by
  simp [patchC] at hu
  rcases hu with h | h | h | h | h <;> rw [h] <;> rfl

def SewnOut (W : World) (out : List Patch) (seams : List Int) (e : Ending) (w' : World) : Prop :=
  ∃ A n c B m d, e = .returned (.tuple #[.slice A n c, .slice B m d]) ∧ Rd w' A n 5 out patchC ∧ Rd w' B m 1 seams intC ∧ Below W.heap.size W w'
theorem sewn_out {W w' : World} {lo1 lo2 : Nat} {T1 T2 : TypeId} {o sm : Value} {st : Sewn} {ps : List Patch} {ls : List Join} (ho : Acc w' lo1 T1 5 o st.out patchC) (hs : Acc w' lo2 T2 1 sm st.seams intC) (hB : Below W.heap.size W w') (he : sewn ps ls = st) :
    SewnOut W (sewn ps ls).out (sewn ps ls).seams (.returned (.tuple #[o, sm])) w' := by
  rw [he]
  obtain ⟨A, c, rfl, _, hO⟩ := ho.own patchC_len
  obtain ⟨B, d, rfl, _, hS⟩ := hs.own (fun _ => rfl)
  exact ⟨A, _, c, B, _, d, rfl, hO.rd, hS.rd, hB⟩
theorem used_len {ps : List Patch} {l : List Join} : ∀ k, k ≤ l.length → ∀ st, sewnUp ps l k = some st → st.used.length = ps.length + l.length := by
  intro k
  induction k with
  | zero => intro _ st h; injection h with h; rw [← h]; simp [sewStart]
  | succ k ih =>
    intro hk st h
    have hx : l[k]? = some (l[k]'(by omega)) := List.getElem?_eq_getElem _
    unfold sewnUp at h
    rw [runL_take_succ hx] at h
    cases ht : runL sewStep (sewStart ps l.length) (l.take k) with
    | none => rw [ht] at h; cases h
    | some t =>
      rw [ht] at h
      obtain ⟨_, _, rfl⟩ := sew_inv h
      simp [ih (by omega) t ht]

theorem keep_set {w : World} {a : Addr} {b o : Nat} {u v : Value} (h : w.cell? a = some v) (hne : b ≠ a.block) : (w.setCell ⟨b, o, none⟩ u).cell? a = some v := by
  rw [World.cell?_setCell_other _ _ _ _ (fun e => hne (congrArg Addr.block e))]
  exact h
theorem keep_drew {w : World} {a : Addr} {v : Value} (h : w.cell? a = some v) : w.drew.cell? a = some v := h
theorem keep_new {w : World} {a : Addr} {v : Value} {o : Obj} (h : w.cell? a = some v) : (w.alloc o).drew.cell? a = some v := keepcell h ((Below.refl _ _).alloc (Nat.le_refl _) o).drew
theorem keep_call0 {w w5 : World} {a : Addr} {v : Value} (h : w.cell? a = some v) (hb : Below w.drew.heap.size w.drew w5) : w5.cell? a = some v := keepcell (w := w.drew) h hb
theorem keep_call1 {w w5 : World} {o : Obj} {a : Addr} {v : Value} (h : w.cell? a = some v) (hb : Below (w.alloc o).drew.heap.size (w.alloc o).drew w5) : w5.cell? a = some v := keepcell (w := (w.alloc o).drew) (keep_new h) hb
theorem keep_step {w w5 : World} {a : Addr} {v : Value} (h : w.cell? a = some v) (hb : Below w.drew.heap.size w.drew w5) (o : Obj) : (w5.alloc o).cell? a = some v :=
  keepcell h ((show Below w.heap.size w w5 from ⟨hb.os, hb.tape, hb.output, hb.size, hb.block⟩).alloc hb.size o)

theorem new_there {w w5 : World} {c : Array Value} {t : TypeId} (hb : Below (w.alloc (.cells c t)).drew.heap.size (w.alloc (.cells c t)).drew w5) : w5.heap[w.heap.size]? = some (.cells c t (0, 0)) := by
  rw [hb.block _ (by show w.heap.size < (w.alloc (.cells c t)).heap.size; simp)]
  exact heap_alloc_new w _
theorem new_five {w w5 : World} {t : TypeId} (hb : Below (w.alloc (.cells #[.int .i64 0, .int .i64 0, .int .i64 0, .int .i64 0, .int .i64 0] t)).drew.heap.size (w.alloc (.cells #[.int .i64 0, .int .i64 0, .int .i64 0, .int .i64 0, .int .i64 0] t)).drew w5) :
    w5.cell? ⟨w.heap.size, 0, none⟩ = some (.int .i64 0) ∧ w5.cell? ⟨w.heap.size, 1, none⟩ = some (.int .i64 0) ∧ w5.cell? ⟨w.heap.size, 2, none⟩ = some (.int .i64 0) ∧ w5.cell? ⟨w.heap.size, 3, none⟩ = some (.int .i64 0) ∧ w5.cell? ⟨w.heap.size, 4, none⟩ = some (.int .i64 0) ∧
    w5.frozen? ⟨w.heap.size, 0, none⟩ = false ∧ w5.frozen? ⟨w.heap.size, 1, none⟩ = false ∧ w5.frozen? ⟨w.heap.size, 2, none⟩ = false ∧ w5.frozen? ⟨w.heap.size, 3, none⟩ = false ∧ w5.frozen? ⟨w.heap.size, 4, none⟩ = false := by
  have h := new_there hb
  refine ⟨?_, ?_, ?_, ?_, ?_, frozen_of_row _ _ _ _ _ h, frozen_of_row _ _ _ _ _ h, frozen_of_row _ _ _ _ _ h, frozen_of_row _ _ _ _ _ h, frozen_of_row _ _ _ _ _ h⟩ <;> rw [cell_of_row _ _ _ _ _ _ h] <;> rfl

structure ZAt (wa : World) (zb : Nat) (wz : World) (z : Patch) : Prop where
  below : Below wa.heap.size wa wz
  c0 : wz.cell? ⟨zb, 0, none⟩ = some (.int .i64 z.X)
  c1 : wz.cell? ⟨zb, 1, none⟩ = some (.int .i64 z.Y)
  c2 : wz.cell? ⟨zb, 2, none⟩ = some (.int .i64 z.W)
  c3 : wz.cell? ⟨zb, 3, none⟩ = some (.int .i64 z.H)
  c4 : wz.cell? ⟨zb, 4, none⟩ = some (.int .i64 z.Color)
  lo : wa.heap.size ≤ zb
  hi : zb < wz.heap.size
theorem z_new {wa w5 : World} {z : Patch} {t : TypeId} (hb : Below wa.drew.heap.size wa.drew w5) :
    ZAt wa w5.heap.size (w5.alloc (.cells #[.int .i64 z.X, .int .i64 z.Y, .int .i64 z.W, .int .i64 z.H, .int .i64 z.Color] t)) z := by
  have hb' : Below wa.heap.size wa w5 := ⟨hb.os, hb.tape, hb.output, hb.size, hb.block⟩
  have h := heap_alloc_new w5 (.cells #[.int .i64 z.X, .int .i64 z.Y, .int .i64 z.W, .int .i64 z.H, .int .i64 z.Color] t)
  refine ⟨hb'.alloc hb'.size _, ?_, ?_, ?_, ?_, ?_, hb'.size, by simp⟩ <;> rw [cell_of_row _ _ _ _ _ _ h] <;> rfl
theorem z_set {wa w5 : World} {z : Patch} {t : TypeId} (hb : Below (wa.alloc (.cells #[.int .i64 0, .int .i64 0, .int .i64 0, .int .i64 0, .int .i64 0] t)).drew.heap.size (wa.alloc (.cells #[.int .i64 0, .int .i64 0, .int .i64 0, .int .i64 0, .int .i64 0] t)).drew w5) :
    ZAt wa wa.heap.size (((((w5.setCell ⟨wa.heap.size, 0, none⟩ (.int .i64 z.X)).setCell ⟨wa.heap.size, 1, none⟩ (.int .i64 z.Y)).setCell ⟨wa.heap.size, 2, none⟩ (.int .i64 z.W)).setCell ⟨wa.heap.size, 3, none⟩ (.int .i64 z.H)).setCell ⟨wa.heap.size, 4, none⟩ (.int .i64 z.Color)) z := by
  obtain ⟨c0, c1, c2, c3, c4, _⟩ := new_five hb
  have hs : wa.heap.size < w5.heap.size := Nat.lt_of_lt_of_le (show wa.heap.size < (wa.alloc (.cells #[.int .i64 0, .int .i64 0, .int .i64 0, .int .i64 0, .int .i64 0] t)).heap.size by simp) hb.size
  have hb' : Below wa.heap.size wa w5 := ⟨hb.os, hb.tape, hb.output, Nat.le_of_lt hs, fun k hk => (hb.block k (show k < (wa.alloc _).heap.size by simp; omega)).trans (((Below.refl wa.heap.size wa).alloc (Nat.le_refl _) _).block k hk)⟩
  refine ⟨((((hb'.setCell (Nat.le_refl _) _).setCell (Nat.le_refl _) _).setCell (Nat.le_refl _) _).setCell (Nat.le_refl _) _).setCell (Nat.le_refl _) _, ?_, ?_, ?_, ?_, ?_, Nat.le_refl _, by simp only [World.setCell, Array.size_modify]; exact hs⟩
  all_goals simp [World.cell?_setCell_same', World.cell?_setCell_other, c0, c1, c2, c3, c4]
theorem Marked.kept {w w' : World} {b n : Nat} {u : List Bool} {row : Option Nat} (h : Marked w b n u) (hg : w.grownBy w' row) (hne : row ≠ some b) : Marked w' b n u := by
  obtain ⟨D, ⟨es, clock, h1, F, hs, hD⟩, h2, h3⟩ := h
  exact ⟨D, ⟨es, clock, (hg.block b (heap_lt h1) (fun e => hne e.symm)).trans h1, F, hs, hD⟩, h2, h3⟩
theorem own_ne {v v' : Value} {m g : Nat} (hat : v'.ownBlock = v.ownBlock ∨ v'.ownBlock = some m) (h : v.ownBlock ≠ some g) (hm : g < m) : v'.ownBlock ≠ some g := by
  intro e
  rcases hat with h1 | h1
  · exact h (h1.symm.trans e)
  · rw [h1] at e
    injection e with e
    omega

set_option maxRecDepth 100000 in
set_option maxHeartbeats 4000000 in
theorem unitsI_any (w h : Int) (A : Option Addr) (n c : Nat) (ps : List Patch) (B : Option Addr) (m d : Nat) (ls : List Join) (W : World) (hR : Rd W A n 5 ps patchC) (hL : layoutOk w h ps = true) (hJ : Rd W B m 3 ls joinC) (hm : m ≤ 1048576) :
    Calls Try.prog 84 #[.agg #[.int .i64 w, .int .i64 h, .slice A n c], .slice B m d] W (SewnOut W (sewn ps ls).out (sewn ps ls).seams) := by
  have HLEN := Lib.hid hR.len
  have HLJ := Lib.hid hJ.len
  obtain ⟨hw, hh, hn12, hall, _, _⟩ := layout_parts hL
  rw [HLEN.out] at hn12
  have HSO := Lib.hid (sewnUp_ok (l := ls) hall)
  have HBD := Lib.hid (show w ≤ 12 ∧ h ≤ 12 from ⟨hw.2, hh.2⟩)
  have hmm := fun t w => run_makeMap (P := Try.prog) t w
  have hacc0 := Acc.lit0 (W.alloc (.cells #[.int .i64 w, .int .i64 h, .slice A n c] 30)) W.heap.size 44 5 patchC (by simp) rfl
  rw [show (W.alloc (.cells #[.int .i64 w, .int .i64 h, .slice A n c] 30)).heap.size = W.heap.size + 1 by simp] at hacc0
  have hRa : Rd ((W.alloc (.cells #[.int .i64 w, .int .i64 h, .slice A n c] 30)).alloc (.cells #[] 44)) A n 5 ps patchC := hR.below (by (repeat (first | exact Below.refl _ _ | assumption | (refine Below.drew ?_) | (refine below_drewN ?_ _) | (refine Below.alloc ?_ (by first | exact Nat.le_refl _ | (simp; done) | (simp; omega) | omega) _) | (refine Below.setCell ?_ (by first | exact Nat.le_refl _ | (simp; done) | (simp; omega) | omega) _) | (refine Below.trans ?_ (Below.mono (by assumption) (by first | exact Nat.le_refl _ | (simp; done) | (simp; omega) | omega))))))
  have hza : W.heap.size ≤ ((W.alloc (.cells #[.int .i64 w, .int .i64 h, .slice A n c] 30)).alloc (.cells #[] 44)).heap.size := by simp; omega
  have hBa : Below W.heap.size W ((W.alloc (.cells #[.int .i64 w, .int .i64 h, .slice A n c] 30)).alloc (.cells #[] 44)) := by (repeat (first | exact Below.refl _ _ | assumption | (refine Below.drew ?_) | (refine below_drewN ?_ _) | (refine Below.alloc ?_ (by first | exact Nat.le_refl _ | (simp; done) | (simp; omega) | omega) _) | (refine Below.setCell ?_ (by first | exact Nat.le_refl _ | (simp; done) | (simp; omega) | omega) _) | (refine Below.trans ?_ (Below.mono (by assumption) (by first | exact Nat.le_refl _ | (simp; done) | (simp; omega) | omega)))))
  clear hall hw hh
  go_enter Try.func84, Try.ntmps84
  go_wp2_with (at_builtin; refine wpList_accsG rfl _ _ 28 rfl W.heap.size 44 (.agg #[.int .i64 0, .int .i64 0, .int .i64 0, .int .i64 0, .int .i64 0]) 5 40 Try.underlying28 infoPatch rfl (by omega) _ [] ps patchC patchC_len patchC_one rfl hacc0 A n c rfl hRa (by simp; omega) (by omega) hza ?_; intro v2 w2 hacc2 hgrow2 hat2)
  clear hmm
  have hB2 := hacc0.grow_below hBa hgrow2 (Nat.le_refl _) hza
  have hz2 := hB2.size
  have hM0 := Marked.made (w2.alloc (.cells #[] 3)) (n + m)
  have haccs := Acc.lit0 w2 W.heap.size 3 1 intC hz2 rfl
  rw [List.nil_append] at hacc2
  obtain ⟨g, hg⟩ : ∃ g, Hid (g = (w2.alloc (.cells #[] 3)).heap.size) := ⟨_, rfl⟩
  rw [← hg.out] at hM0
  have hacc3 := (hacc2.alloc (.cells #[] 3)).alloc (.map #[] 0)
  have haccs3 := haccs.alloc (.map #[] 0)
  have hB3 : Below W.heap.size W ((w2.alloc (.cells #[] 3)).alloc (.map #[] 0)) := (hB2.alloc hz2 _).alloc (by simp; omega) _
  have hd0 : Dis v2 (.slice (some ⟨w2.heap.size, 0, none⟩) 0 0) := Dis.new (fun k hk => (hacc2.row hk).2) rfl
  have hg1 : v2.ownBlock ≠ some g := fun e => by have := (hacc2.row e).2; have := hg.out; simp at this; omega
  have hg2 : (Value.slice (some ⟨w2.heap.size, 0, none⟩) 0 0).ownBlock ≠ some g := fun e => by
    have h1 : w2.heap.size = g := by simpa [Value.ownBlock] using e
    have := hg.out
    simp at this
    omega
  have hgW : W.heap.size ≤ g := by have := hg.out; simp at this; omega
  have hgz : (w2.alloc (.cells #[] 3)).heap.size = w2.heap.size + 1 := by simp
  have hgw : w2.heap.size + 1 = g := by rw [hg.out, hgz]
  try rw [← hg.out]
  try rw [hgw]
  generalize (w2.alloc (.cells #[] 3)).alloc (.map #[] 0) = w3 at hacc3 haccs3 hB3 hM0 ⊢
  clear hacc2 hacc0 haccs hgrow2 hat2 hB2 hz2 hBa hza hRa hgz hgw
  go_loopw [6, 7, 23] (fun o sm i wr => ∃ (k : Nat) (st : Sewn), k ≤ m ∧ i = .int .i64 (k : Int) ∧ Acc wr W.heap.size 44 5 o st.out patchC ∧ Acc wr W.heap.size 3 1 sm st.seams intC ∧ Marked wr g (2 * k) st.used ∧ Dis o sm ∧ o.ownBlock ≠ some g ∧ sm.ownBlock ≠ some g ∧ Hid (sewnUp ps ls k = some st) ∧ Below W.heap.size W wr) (fun _ _ i _ => m - (intOf i).toNat)
  case atStart => exact ⟨0, sewStart ps ls.length, Nat.zero_le _, rfl, hacc3, haccs3, by have := hM0; rw [← HLEN.out, ← HLJ.out] at this; exact this, hd0, hg1, hg2, rfl, hB3⟩
  case round =>
    clear hacc3 haccs3 hB3 hM0 hd0 hg1 hg2
    obtain ⟨k, st, hk, rfl, hacc, hacs, hM, hdis, hgo, hgs, hU, hB⟩ := hrel
    have hz := hB.size
    have hkl : k ≤ ls.length := by rw [HLJ.out]; exact hk
    have hSO := HSO.out k hkl st hU.out
    have hul := used_len k hkl st hU.out
    by_cases hlt : k < m
    · obtain ⟨b, off, x, rfl, hbW, hx, g0, g1, g2⟩ := hJ.join hlt hB
      have HX := Lib.hid hx
      clear hx
      obtain ⟨up, a, b2⟩ := x
      simp only at g0 g1 g2
      have hSL := hSO.len
      rw [HLEN.out] at hSL
      obtain ⟨Lp, hLp⟩ : ∃ L, Hid (L = st.out.length) := ⟨_, rfl⟩
      have hLk : Lp = n + k := by rw [hLp.out]; exact hSL
      have hLb : Lp ≤ 2097152 := by omega
      have hL1 : 1 ≤ Lp := by omega
      have HLK := Lib.hid hLk
      have HUL := Lib.hid hul
      have HFJ := Lib.hid (show freeJoin st ⟨up, a, b2⟩ = (within a 0 ((Lp : Int) - 1) && within b2 0 ((Lp : Int) - 1) && decide (a ≠ b2) && !st.used.getD a.toNat false && !st.used.getD b2.toNat false) by rw [hLp.out]; rfl)
      have HSTOP := Lib.hid fun (hn : sewStep st ⟨up, a, b2⟩ = none) => (show sewn ps ls = st from goL_stop HX.out hU.out hn)
      obtain ⟨A1, c1, rfl, hc1, hO⟩ := hacc.own patchC_len
      rw [← hLp.out] at hc1 hO hacc hdis hgo ⊢
      clear hSL hLk hul
      rcases ca : within a 0 ((Lp : Int) - 1) with _ | _
      · have HN := Lib.hid (HSTOP.out (sew_no1 (by rw [HFJ.out, ca]; rfl)))
        clear hO
        go_wp2_with (go_at_call 74; refine (within_any _ _ _ _).mono ?_; rintro e w' ⟨rfl, rfl⟩)
        go_ret2
        exact sewn_out (hacc.alloc _) (hacs.alloc _) (by (repeat (first | exact Below.refl _ _ | assumption | (refine Below.drew ?_) | (refine below_drewN ?_ _) | (refine Below.alloc ?_ (by first | exact Nat.le_refl _ | (simp; done) | (simp; omega) | omega) _) | (refine Below.setCell ?_ (by first | exact Nat.le_refl _ | (simp; done) | (simp; omega) | omega) _) | (refine Below.trans ?_ (Below.mono (by assumption) (by first | exact Nat.le_refl _ | (simp; done) | (simp; omega) | omega)))))) HN.out
      rcases cb : within b2 0 ((Lp : Int) - 1) with _ | _
      · have HN := Lib.hid (HSTOP.out (sew_no1 (by rw [HFJ.out, ca, cb]; rfl)))
        have hab := within_iff.1 ca
        clear hO
        go_wp2_with (go_at_call 74; refine (within_any _ _ _ _).mono ?_; rintro e w' ⟨rfl, rfl⟩)
        go_ret2
        exact sewn_out (hacc.alloc _) (hacs.alloc _) (by (repeat (first | exact Below.refl _ _ | assumption | (refine Below.drew ?_) | (refine below_drewN ?_ _) | (refine Below.alloc ?_ (by first | exact Nat.le_refl _ | (simp; done) | (simp; omega) | omega) _) | (refine Below.setCell ?_ (by first | exact Nat.le_refl _ | (simp; done) | (simp; omega) | omega) _) | (refine Below.trans ?_ (Below.mono (by assumption) (by first | exact Nat.le_refl _ | (simp; done) | (simp; omega) | omega)))))) HN.out
      have hab := within_iff.1 ca
      have hbb := within_iff.1 cb
      obtain ⟨pa, rfl⟩ := Int.eq_ofNat_of_zero_le hab.1
      obtain ⟨pb, rfl⟩ := Int.eq_ofNat_of_zero_le hbb.1
      rw [Int.toNat_natCast, Int.toNat_natCast] at HFJ
      have hpa : pa < Lp := by omega
      have hpb : pb < Lp := by omega
      have hMa := hM.below ((Below.refl _ _).alloc (Nat.le_refl _) (.cells #[.bool up, .int .i64 (pa : Int), .int .i64 (pb : Int)] 76))
      have hla := hMa.look pa (by omega)
      have hlb := hMa.look pb (by omega)
      by_cases e1 : pa = pb
      · subst e1
        have HN := Lib.hid (HSTOP.out (sew_no1 (by rw [HFJ.out, ca, decide_eq_false (by simp)]; rfl)))
        clear hO hla hlb hMa
        go_wp2_with (go_at_call 74; refine (within_any _ _ _ _).mono ?_; rintro e w' ⟨rfl, rfl⟩)
        go_ret2
        exact sewn_out (hacc.alloc _) (hacs.alloc _) (by (repeat (first | exact Below.refl _ _ | assumption | (refine Below.drew ?_) | (refine below_drewN ?_ _) | (refine Below.alloc ?_ (by first | exact Nat.le_refl _ | (simp; done) | (simp; omega) | omega) _) | (refine Below.setCell ?_ (by first | exact Nat.le_refl _ | (simp; done) | (simp; omega) | omega) _) | (refine Below.trans ?_ (Below.mono (by assumption) (by first | exact Nat.le_refl _ | (simp; done) | (simp; omega) | omega)))))) HN.out
      have e1' : ((pa : Int) == (pb : Int)) = false := by rw [beq_eq_false_iff_ne]; omega
      have e2' : decide ((pa : Int) ≠ (pb : Int)) = true := decide_eq_true (by omega)
      rw [ca, cb, e2'] at HFJ
      clear e2'
      rcases ha : st.used.getD pa false with _ | _
      · rcases hb : st.used.getD pb false with _ | _
        · rw [ha] at hla
          rw [hb] at hlb
          have HFR := Lib.hid (show freeJoin st ⟨up, pa, pb⟩ = true by rw [HFJ.out, ha, hb]; rfl)
          clear HFJ
          have hPA := pAt_in hSO (u := (pa : Int)) (by omega) (by rw [← hLp.out]; omega)
          have hPB := pAt_in hSO (u := (pb : Int)) (by omega) (by rw [← hLp.out]; omega)
          rw [Int.toNat_natCast] at hPA hPB
          obtain ⟨hPA, hIA⟩ := hPA
          obtain ⟨hPB, hIB⟩ := hPB
          obtain ⟨ga, cga, ev, hgl, hgw, hcA, _⟩ := hacc.cells_at patchC_len hPA
          obtain ⟨gb, cgb, ev2, _, _, hcB, _⟩ := hacc.cells_at patchC_len hPB
          injection ev with ev1 ev3 ev4
          subst ev1
          injection ev2 with ev5 ev6 ev7
          injection ev5 with ev5
          injection ev5 with ev5 _ _
          subst ev5
          clear ev3 ev4 ev6 ev7 hO
          obtain ⟨PA, hPAe⟩ : ∃ P, Hid (P = pAt st.out (pa : Int)) := ⟨_, rfl⟩
          obtain ⟨PB, hPBe⟩ : ∃ P, Hid (P = pAt st.out (pb : Int)) := ⟨_, rfl⟩
          rw [← hPAe.out] at hcA hIA
          rw [← hPBe.out] at hcB hIB
          have HYES := Lib.hid fun (hf : fitJoin ⟨up, pa, pb⟩ PA PB = true) => (show sewStep st ⟨up, pa, pb⟩ = some ⟨st.out ++ [boxOf ⟨up, pa, pb⟩ PA PB], st.seams ++ [seamOf ⟨up, pa, pb⟩ PA], (st.used.set pa true).set pb true⟩ by
            have := sew_yes (s := st) (j := ⟨up, pa, pb⟩) HFR.out (by rw [← hPAe.out, ← hPBe.out]; exact hf)
            rw [← hPAe.out, ← hPBe.out] at this
            exact this)
          have HNO := Lib.hid fun (hf : fitJoin ⟨up, pa, pb⟩ PA PB = false) => (show sewn ps ls = st from HSTOP.out (sew_no2 (by rw [← hPAe.out, ← hPBe.out]; exact hf)))
          obtain ⟨x, y, p, q, r⟩ := PA
          obtain ⟨x', y', p', q', r'⟩ := PB
          unfold inBox at hIA hIB
          simp only at hIA hIB
          have hbd := HBD.out
          have pc0_0 := hcA 0 _ rfl
          have pc0_1 := hcA 1 _ rfl
          have pc0_2 := hcA 2 _ rfl
          have pc0_3 := hcA 3 _ rfl
          have pc0_4 := hcA 4 _ rfl
          rw [Nat.add_zero] at pc0_0
          have pc1_0 := hcB 0 _ rfl
          have pc1_1 := hcB 1 _ rfl
          have pc1_2 := hcB 2 _ rfl
          have pc1_3 := hcB 3 _ rfl
          have pc1_4 := hcB 4 _ rfl
          rw [Nat.add_zero] at pc1_0
          clear hcA hcB hPA hPB e1
          go_wp2_with (go_at_call 74; refine (within_any _ _ _ _).mono ?_; rintro e w' ⟨rfl, rfl⟩)
          have hn0 : (wr.alloc (.cells #[.bool up, .int .i64 (pa : Int), .int .i64 (pb : Int)] 76)).cell? ⟨wr.heap.size, 0, none⟩ = some (.bool up) := by rw [cell_of_row _ _ _ _ _ _ (heap_alloc_new wr _)]; rfl
          have hn1 : (wr.alloc (.cells #[.bool up, .int .i64 (pa : Int), .int .i64 (pb : Int)] 76)).cell? ⟨wr.heap.size, 1, none⟩ = some (.int .i64 pa) := by rw [cell_of_row _ _ _ _ _ _ (heap_alloc_new wr _)]; rfl
          have hn2 : (wr.alloc (.cells #[.bool up, .int .i64 (pa : Int), .int .i64 (pb : Int)] 76)).cell? ⟨wr.heap.size, 2, none⟩ = some (.int .i64 pb) := by rw [cell_of_row _ _ _ _ _ _ (heap_alloc_new wr _)]; rfl
          have hb9 : Below wr.heap.size wr (wr.alloc (.cells #[.bool up, .int .i64 (pa : Int), .int .i64 (pb : Int)] 76)) := (Below.refl _ _).alloc (Nat.le_refl _) _
          have hBa : Below W.heap.size W (wr.alloc (.cells #[.bool up, .int .i64 (pa : Int), .int .i64 (pb : Int)] 76)) := by (repeat (first | exact Below.refl _ _ | assumption | (refine Below.drew ?_) | (refine below_drewN ?_ _) | (refine Below.alloc ?_ (by first | exact Nat.le_refl _ | (simp; done) | (simp; omega) | omega) _) | (refine Below.setCell ?_ (by first | exact Nat.le_refl _ | (simp; done) | (simp; omega) | omega) _) | (refine Below.trans ?_ (Below.mono (by assumption) (by first | exact Nat.le_refl _ | (simp; done) | (simp; omega) | omega)))))
          have hacca := hacc.below hb9
          have hacsa := hacs.below hb9
          have hjw : wr.heap.size < (wr.alloc (.cells #[.bool up, .int .i64 (pa : Int), .int .i64 (pb : Int)] 76)).heap.size := by simp
          have hjg0 : g < wr.heap.size := hM.lt
          have hjga : ga < wr.heap.size := hgw
          replace pc0_0 := keepcell pc0_0 hb9
          replace pc0_1 := keepcell pc0_1 hb9
          replace pc0_2 := keepcell pc0_2 hb9
          replace pc0_3 := keepcell pc0_3 hb9
          replace pc0_4 := keepcell pc0_4 hb9
          replace pc1_0 := keepcell pc1_0 hb9
          replace pc1_1 := keepcell pc1_1 hb9
          replace pc1_2 := keepcell pc1_2 hb9
          replace pc1_3 := keepcell pc1_3 hb9
          replace pc1_4 := keepcell pc1_4 hb9
          clear hb9 hacc hacs hM hB hgw
          generalize wr.alloc (.cells #[.bool up, .int .i64 (pa : Int), .int .i64 (pb : Int)] 76) = wa at hn0 hn1 hn2 hMa hBa hla hlb hjw hacca hacsa pc0_0 pc0_1 pc0_2 pc0_3 pc0_4 pc1_0 pc1_1 pc1_2 pc1_3 pc1_4 ⊢
          generalize wr.heap.size = j at hn0 hn1 hn2 hjw hjg0 hjga hz hbW ⊢
          have q0 := World.new_ne _ _ hn0
          have q1 := World.new_ne _ _ hn1
          have q2 := World.new_ne _ _ hn2
          have q3 := World.new_ne _ _ pc0_0
          have q4 := World.new_ne _ _ pc0_1
          have q5 := World.new_ne _ _ pc0_2
          have q6 := World.new_ne _ _ pc0_3
          have q7 := World.new_ne _ _ pc0_4
          have q8 := World.new_ne _ _ pc1_0
          have q9 := World.new_ne _ _ pc1_1
          have q10 := World.new_ne _ _ pc1_2
          have q11 := World.new_ne _ _ pc1_3
          have q12 := World.new_ne _ _ pc1_4
          go_region_held3 (fun v => v.cell? ⟨j, 0, none⟩ = some (.bool up) ∧ v.cell? ⟨j, 1, none⟩ = some (.int .i64 (pa : Int)) ∧ v.cell? ⟨j, 2, none⟩ = some (.int .i64 (pb : Int)) ∧ v.cell? ⟨ga, pa * 5, none⟩ = some (.int .i64 x) ∧ v.cell? ⟨ga, pa * 5 + 1, none⟩ = some (.int .i64 y) ∧ v.cell? ⟨ga, pa * 5 + 2, none⟩ = some (.int .i64 p) ∧ v.cell? ⟨ga, pa * 5 + 3, none⟩ = some (.int .i64 q) ∧ v.cell? ⟨ga, pa * 5 + 4, none⟩ = some (.int .i64 r) ∧ v.cell? ⟨ga, pb * 5, none⟩ = some (.int .i64 x') ∧ v.cell? ⟨ga, pb * 5 + 1, none⟩ = some (.int .i64 y') ∧ v.cell? ⟨ga, pb * 5 + 2, none⟩ = some (.int .i64 p') ∧ v.cell? ⟨ga, pb * 5 + 3, none⟩ = some (.int .i64 q') ∧ v.cell? ⟨ga, pb * 5 + 4, none⟩ = some (.int .i64 r'))
            ((refine ⟨?_, ?_, ?_, ?_, ?_, ?_, ?_, ?_, ?_, ?_, ?_, ?_, ?_⟩ <;> (repeat (refine keep_set ?_ (by assumption))) <;> first | assumption | (refine keep_drew ?_; assumption) | (refine keep_new ?_; assumption) | (refine keep_call0 ?_ hb5; assumption) | (refine keep_call1 ?_ hb5; assumption) | (refine keep_step ?_ hb5 _; assumption)))
            (first | (go_at_call 105; refine (joined_any up pa pb x y p q r x' y' p' q' r' _ (by omega) (by omega) (by omega) (by omega) (by omega) (by omega)).mono ?_; rintro e w5 ⟨⟨s, z, rfl, hz5, hs5⟩, hb5⟩; have HZ := Lib.hid hz5; have HSM := Lib.hid hs5; clear hz5 hs5; (first | (have hf := new_five hb5; obtain ⟨c0, c1, c2, c3, c4, f0, f1, f2, f3, f4⟩ := hf) | skip)))
          all_goals (first
            | (have hZ := z_set (z := z) hb5
               obtain ⟨zb, hzb⟩ : ∃ q, Hid (q = wa.heap.size) := ⟨_, rfl⟩
               clear f0 f1 f2 f3 f4 c0 c1 c2 c3 c4
               generalize ((((w5.setCell ⟨wa.heap.size, 0, none⟩ (.int .i64 z.X)).setCell ⟨wa.heap.size, 1, none⟩ (.int .i64 z.Y)).setCell ⟨wa.heap.size, 2, none⟩ (.int .i64 z.W)).setCell ⟨wa.heap.size, 3, none⟩ (.int .i64 z.H)).setCell ⟨wa.heap.size, 4, none⟩ (.int .i64 z.Color) = wz at hZ ⊢
               have hBz := hZ.below
               have hlo := hZ.lo
               have hhi := hZ.hi
               have z0 := hZ.c0
               have z1 := hZ.c1
               have z2 := hZ.c2
               have z3 := hZ.c3
               have z4 := hZ.c4
               rw [← hzb.out] at hlo hhi z0 z1 z2 z3 z4 ⊢
               rw [hzb.out] at hlo)
            | (have hZ := z_new (z := z) (t := 44) hb5
               obtain ⟨zb, hzb⟩ : ∃ q, Hid (q = w5.heap.size) := ⟨_, rfl⟩
               generalize w5.alloc (.cells #[.int .i64 z.X, .int .i64 z.Y, .int .i64 z.W, .int .i64 z.H, .int .i64 z.Color] 44) = wz at hZ ⊢
               have hBz := hZ.below
               have hlo := hZ.lo
               have hhi := hZ.hi
               have z0 := hZ.c0
               have z1 := hZ.c1
               have z2 := hZ.c2
               have z3 := hZ.c3
               have z4 := hZ.c4
               rw [← hzb.out] at hlo hhi z0 z1 z2 z3 z4 ⊢))
          all_goals
            have hlz : wa.heap.size ≤ zb := by have h1 := hZ.lo; have h2 := hzb.out; omega
            have n1 := keepcell hn1 hBz
            have n2 := keepcell hn2 hBz
            have haccz := hacca.below hBz
            have hacsz := hacsa.below hBz
            have hMz := hMa.below hBz
            have hBWz : Below W.heap.size W wz := hBa.trans (hBz.mono hBa.size)
            have hjz : j < wz.heap.size := Nat.lt_of_lt_of_le hjw hBz.size
            have hgj : g < j := hjg0
            have hgz : g < zb := by omega
            have hol : st.out.length + 1 ≤ 4294967296 := by rw [← hLp.out]; omega
            have hsl : st.seams.length + 1 ≤ 4294967296 := by rw [hSO.seams]; omega
            clear hb5 hZ hBz hn0 hn1 hn2 hacca hacsa hMa hBa hlo pc0_0 pc0_1 pc0_2 pc0_3 pc0_4 pc1_0 pc1_1 pc1_2 pc1_3 pc1_4 q0 q1 q2 q3 q4 q5 q6 q7 q8 q9 q10 q11 q12 hIA hIB hla hlb hjga
          all_goals
            rcases hf : fitJoin ⟨up, pa, pb⟩ ⟨x, y, p, q, r⟩ ⟨x', y', p', q', r'⟩ with _ | _
            · have HN := Lib.hid (HNO.out hf)
              clear hol hsl
              go_wp2_with fail
              go_ret2
              exact sewn_out haccz hacsz hBWz HN.out
            · have HY : Hid (sewStep st ⟨up, pa, pb⟩ = some ⟨st.out ++ [z], st.seams ++ [s], (st.used.set pa true).set pb true⟩) := by
                have := HYES.out hf
                rw [HZ.out, HSM.out]
                exact this
              clear HYES HNO
              go_wp2_with fail
              have hM1 : Marked (World.drew wz) g (2 * k) st.used := hMz.below ((Below.refl _ _).drew)
              have hB1 : Below W.heap.size W (World.drew wz) := hBWz.drew
              have hz1 := hB1.size
              have hjg : some j ≠ some g := by intro h; injection h; omega
              have hzg : some zb ≠ some g := by intro h; injection h; omega
              have hul2 := HUL.out
              have hlj2 := HLJ.out
              have hln2 := HLEN.out
              have hk1 : 2 * k ≤ 8388608 := by omega
              have hk2 : 2 * k + 1 ≤ 8388608 := by omega
              have hpu : pa < st.used.length := by have := HLK.out; omega
              have hru : pb < (st.used.set pa true).length := by rw [List.length_set]; have := HLK.out; omega
              have hpl : pa ≤ 8388608 := by omega
              have hrl : pb ≤ 8388608 := by omega
              clear hul2 hlj2 hln2
              obtain ⟨w6, hrun1, hM2, hg6⟩ := hM1.update hk1 hpu hpl
              obtain ⟨w7, hrun2, hM3, hg7⟩ := hM2.update hk2 hru hrl
              have far6 : ∀ b o u, b < wz.heap.size → some b ≠ some g → wz.cell? ⟨b, o, none⟩ = some u → w6.cell? ⟨b, o, none⟩ = some u := fun b o u h1 h2 h3 => (hg6.cell_far ⟨b, o, none⟩ h1 h2).trans h3
              have far7 : ∀ b o u, b < wz.heap.size → some b ≠ some g → wz.cell? ⟨b, o, none⟩ = some u → w7.cell? ⟨b, o, none⟩ = some u := fun b o u h1 h2 h3 => (hg7.cell_far ⟨b, o, none⟩ (Nat.lt_of_lt_of_le h1 hg6.size) h2).trans (far6 b o u h1 h2 h3)
              have hs2 : w6.cell? ⟨j, 1, none⟩ = some (.int .i64 (pa : Int)) ∧ w6.cell? ⟨j, 2, none⟩ = some (.int .i64 (pb : Int)) := ⟨far6 _ _ _ hjz hjg n1, far6 _ _ _ hjz hjg n2⟩
              have hs3 : w7.cell? ⟨j, 1, none⟩ = some (.int .i64 (pa : Int)) ∧ w7.cell? ⟨j, 2, none⟩ = some (.int .i64 (pb : Int)) := ⟨far7 _ _ _ hjz hjg n1, far7 _ _ _ hjz hjg n2⟩
              have y0 := far7 _ _ _ hhi hzg z0
              have y1 := far7 _ _ _ hhi hzg z1
              have y2 := far7 _ _ _ hhi hzg z2
              have y3 := far7 _ _ _ hhi hzg z3
              have y4 := far7 _ _ _ hhi hzg z4
              clear far6 far7 z0 z1 z2 z3 z4
              have hacc7 := (haccz.drew.kept hg6 (fun g' h e => hgo (h.trans e.symm))).kept hg7 (fun g' h e => hgo (h.trans e.symm))
              have hacs7 := (hacsz.drew.kept hg6 (fun g' h e => hgs (h.trans e.symm))).kept hg7 (fun g' h e => hgs (h.trans e.symm))
              have hB7 : Below W.heap.size W w7 := (hB1.grown hg6 hz1 (fun q hq => by injection hq with hq; omega)).grown hg7 (Nat.le_trans hz1 hg6.size) (fun q hq => by injection hq with hq; omega)
              have hz7 := hB7.size
              have hg7' : g < w7.heap.size := hM3.lt
              clear haccz hacsz hMz hBWz
              go_region_held3 (fun w' => w'.cell? ⟨j, 1, none⟩ = some (.int .i64 (pa : Int)) ∧ w'.cell? ⟨j, 2, none⟩ = some (.int .i64 (pb : Int))) (first | exact ⟨n1, n2⟩ | exact hs2 | exact hs3 | go_keep) (fail)
              go_wp2_with (first
                | (at_builtin; refine wpList_acc1 rfl _ _ 28 rfl W.heap.size 44 (.agg #[.int .i64 0, .int .i64 0, .int .i64 0, .int .i64 0, .int .i64 0]) 5 40 Try.underlying28 infoPatch rfl (by omega) _ st.out patchC z rfl hacc7 _ _ rfl _ rfl (by simp) rfl (by simp [patchC, Value.oneCell']) hol (by omega) hz7 ?_; intro v8 w8 hacc8 hgrow8 hat8; have hacs8 := hacs7.kept hgrow8 (fun g' h => hdis.symm g' h); have hB8 := hacc7.grow_below hB7 hgrow8 (Nat.le_refl _) hz7; have hz8 := hB8.size)
                | (at_builtin; refine wpList_acc1 rfl _ _ 42 rfl W.heap.size 3 (.int .i64 0) 1 8 Try.underlying42 infoIntA rfl (by omega) _ st.seams intC s rfl hacs8 _ _ rfl _ rfl (by simp) rfl (by simp [intC, Value.oneCell']) hsl (by omega) hz8 ?_; intro v9 w9 hacs9 hgrow9 hat9))
              go_roundw
              case rel =>
                have hgl : g < w7.heap.size + 1 := by omega
                have hgl2 : g < w8.heap.size + 1 := by have := hgrow8.size; omega
                have hd8 := hdis.left hat8 (fun k' h => by have := (hacs7.row h).2; omega)
                have hg8 := own_ne hat8 hgo hgl
                exact ⟨k + 1, _, by omega, by go_num, hacc8.kept hgrow9 (fun g' h e => hd8 g' h e), hacs9, (hM3.kept hgrow8 hgo).kept hgrow9 hgs, hd8.right hat9 (fun k' h => by have := (hacc8.row h).2; omega), hg8, own_ne hat9 hgs hgl2, runL_step HX.out hU.out HY.out, hacs8.grow_below hB8 hgrow9 (Nat.le_refl _) hz8⟩
              case measure => simp [intOf]; omega
        · rw [ha] at hla
          rw [hb] at hlb
          have HN := Lib.hid (HSTOP.out (sew_no1 (by rw [HFJ.out, ha, hb]; rfl)))
          clear hO e1
          go_wp2_with (go_at_call 74; refine (within_any _ _ _ _).mono ?_; rintro e w' ⟨rfl, rfl⟩)
          go_ret2
          exact sewn_out (hacc.alloc _) (hacs.alloc _) (by (repeat (first | exact Below.refl _ _ | assumption | (refine Below.drew ?_) | (refine below_drewN ?_ _) | (refine Below.alloc ?_ (by first | exact Nat.le_refl _ | (simp; done) | (simp; omega) | omega) _) | (refine Below.setCell ?_ (by first | exact Nat.le_refl _ | (simp; done) | (simp; omega) | omega) _) | (refine Below.trans ?_ (Below.mono (by assumption) (by first | exact Nat.le_refl _ | (simp; done) | (simp; omega) | omega)))))) HN.out
      · rw [ha] at hla
        have HN := Lib.hid (HSTOP.out (sew_no1 (by rw [HFJ.out, ha]; rfl)))
        clear hO e1 hlb
        go_wp2_with (go_at_call 74; refine (within_any _ _ _ _).mono ?_; rintro e w' ⟨rfl, rfl⟩)
        go_ret2
        exact sewn_out (hacc.alloc _) (hacs.alloc _) (by (repeat (first | exact Below.refl _ _ | assumption | (refine Below.drew ?_) | (refine below_drewN ?_ _) | (refine Below.alloc ?_ (by first | exact Nat.le_refl _ | (simp; done) | (simp; omega) | omega) _) | (refine Below.setCell ?_ (by first | exact Nat.le_refl _ | (simp; done) | (simp; omega) | omega) _) | (refine Below.trans ?_ (Below.mono (by assumption) (by first | exact Nat.le_refl _ | (simp; done) | (simp; omega) | omega)))))) HN.out
    · obtain rfl : k = m := by omega
      have HN := Lib.hid (show sewn ps ls = st from goL_full (by rw [HLJ.out]; exact Nat.le_refl _) hU.out)
      go_wp2
      go_ret2
      exact sewn_out hacc hacs hB HN.out

end Go.Proofs.Ytmjdgplkcocgmaa
