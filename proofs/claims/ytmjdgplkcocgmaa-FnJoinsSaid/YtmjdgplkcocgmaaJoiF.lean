/-
  Contract: the joins of a layout, by the program.
-/
import Derived.Test.YtmjdgplkcocgmaaJoiD
import Derived.Test.YtmjdgplkcocgmaaJoiE
import Derived.Test.YtmjdgplkcocgmaaKnoK
import Derived.Deep.DeepCutAuto
set_option linter.unusedVariables false
set_option linter.unusedSimpArgs false
namespace Go.Proofs.Ytmjdgplkcocgmaa
open Go.RowKit

theorem three0 (w : World) (a b c : Obj) : (((w.alloc a).alloc b).alloc c).heap[w.heap.size]? = some a := by
  rw [Below.heap_alloc _ _ _ (by simp; omega), Below.heap_alloc _ _ _ (by simp), ]
  show (w.heap.push a)[w.heap.size]? = _
  simp
theorem new_at (w : World) (o : Obj) : (w.alloc o).heap[w.heap.size]? = some o := by
  show (w.heap.push o)[w.heap.size]? = _
  simp
theorem three1 (w : World) (a b c : Obj) : (((w.alloc a).alloc b).alloc c).heap[w.heap.size + 1]? = some b := by
  rw [Below.heap_alloc _ _ _ (by simp)]
  have h := new_at (w.alloc a) b
  rwa [show (w.alloc a).heap.size = w.heap.size + 1 by simp] at h
theorem three2 (w : World) (a b c : Obj) : (((w.alloc a).alloc b).alloc c).heap[w.heap.size + 1 + 1]? = some c := by
  have h := new_at ((w.alloc a).alloc b) c
  rwa [show ((w.alloc a).alloc b).heap.size = w.heap.size + 1 + 1 by simp] at h
theorem acc_empty {α : Type} {w : World} {lo sz g : Nat} {e : TypeId} {cells : α → List Value} (h : w.heap[g]? = some (.cells #[] e (0, 0))) (hlo : lo ≤ g) : Acc w lo e sz (.slice (some ⟨g, 0, none⟩) 0 0) ([] : List α) cells :=
  ⟨by simp, .inr ⟨g, 0, #[], rfl, hlo, h, Nat.le_refl _, by unfold maxLen; omega, by simp, by simp⟩⟩

theorem upToJ_any (m : Nat) (W : World) (hm : m ≤ 1048576) : Calls Try.prog 91 #[.int .i64 m] W (Made W m 1 (iota m) intC) := by
  have hacc0 := Acc.lit0 W W.heap.size 3 1 intC (Nat.le_refl _) rfl
  go_enter Try.func91, Try.ntmps91
  go_wp2
  go_loopw [3, 7] (fun o i wr => ∃ k : Nat, k ≤ m ∧ i = .int .i64 (k : Int) ∧ Acc wr W.heap.size 3 1 o (iota k) intC ∧ Below W.heap.size W wr) (fun _ i _ => m - (intOf i).toNat)
  case atStart => exact ⟨0, Nat.zero_le _, rfl, hacc0, by (repeat (first | exact Below.refl _ _ | assumption | (refine Below.drew ?_) | (refine below_drewN ?_ _) | (refine Below.alloc ?_ (by first | exact Nat.le_refl _ | (simp; done) | (simp; omega) | omega) _) | (refine Below.setCell ?_ (by first | exact Nat.le_refl _ | (simp; done) | (simp; omega) | omega) _) | (refine Below.trans ?_ (Below.mono (by assumption) (by first | exact Nat.le_refl _ | (simp; done) | (simp; omega) | omega)))))⟩
  case round =>
    obtain ⟨k, hk, rfl, hacc, hB⟩ := hrel
    have hz := hB.size
    have hl := iota_len k
    by_cases hlt : k < m
    · go_wp2_with (at_builtin; refine wpList_acc1 rfl _ _ 42 rfl W.heap.size 3 (.int .i64 0) 1 8 Try.underlying42 infoIntA rfl (by omega) _ _ intC (k : Int) rfl hacc _ _ rfl _ rfl (by simp) rfl (by simp [intC, Value.oneCell']) (by omega) (by omega) (by omega) ?_; intro v' w5 hacc5 hgrow5 hat5)
      go_roundw
      case rel => exact ⟨k + 1, by omega, by go_num, by rw [iota_succ]; exact hacc5, hacc.grow_below hB hgrow5 (Nat.le_refl _) hz⟩
      case measure => simp [intOf]; omega
    · go_wp2
      go_ret
      obtain rfl : k = m := by omega
      exact hacc.made (fun _ => rfl) (W := W) (Nat.le_refl _) hB hl

set_option maxRecDepth 100000 in
set_option maxHeartbeats 4000000 in
theorem joinsOfI_any (w h : Int) (A : Option Addr) (n c : Nat) (ps : List Patch) (W : World) (hR : Rd W A n 5 ps patchC) (hN : n ≤ 1048576) :
    Calls Try.prog 49 #[.agg #[.int .i64 w, .int .i64 h, .slice A n c]] W (JOut W ⟨w, h, ps⟩) := by
  have HLEN := Lib.hid hR.len
  obtain ⟨jb, hjb⟩ : ∃ j, Hid (W.heap.size = j) := ⟨_, rfl⟩
  obtain ⟨wa, hwa⟩ : ∃ v, Hid (W.alloc (.cells #[.int .i64 w, .int .i64 h, .slice A n c] 30) = v) := ⟨_, rfl⟩
  have e0 : wa.cell? ⟨jb, 0, none⟩ = some (.int .i64 w) := by rw [← hwa.out, ← hjb.out, cell_of_row _ _ _ _ _ _ (heap_alloc_new W _)]; rfl
  have e1 : wa.cell? ⟨jb, 1, none⟩ = some (.int .i64 h) := by rw [← hwa.out, ← hjb.out, cell_of_row _ _ _ _ _ _ (heap_alloc_new W _)]; rfl
  have e2 : wa.cell? ⟨jb, 2, none⟩ = some (.slice A n c) := by rw [← hwa.out, ← hjb.out, cell_of_row _ _ _ _ _ _ (heap_alloc_new W _)]; rfl
  have ba : Below W.heap.size W wa := by rw [← hwa.out]; exact (Below.refl _ _).alloc (Nat.le_refl _) _
  have hRa := hR.below ba
  clear hR
  go_enter Try.func49, Try.ntmps49
  go_wp2_with (first | rw [hwa.out] | rw [hjb.out])
  refine (canSewI_any _ _ _ _ _ ps _ hRa hN).mono ?_
  rintro e w1 ⟨rfl, hb1⟩
  replace e0 := keepcell e0 hb1
  replace e1 := keepcell e1 hb1
  replace e2 := keepcell e2 hb1
  have hB1 := ba.trans (hb1.mono ba.size)
  have hs1 := hB1.size
  have hR1 := hRa.below hb1
  clear hb1 ba hRa
  rcases hsw : canSew ⟨w, h, ps⟩ with _ | _
  · have HS := Lib.hid hsw
    go_wp2
    exact bodyPost_ret (v := .tuple #[.slice none 0 0, .bool false]) (by simp [results, Try.results49, go_sem]) rfl (jout_no HS.out hB1)
  have HS := Lib.hid hsw
  clear hsw
  have hjb1 : jb < w1.heap.size := block_lt_of_cell e2
  have hjb2 : jb < w1.heap.size + 1 := by omega
  have hjb3 : jb < w1.heap.size + 1 + 1 := by omega
  go_upto_region 3 with fail
  go_cut [4, 5] (fun s4 s5 wx => ∃ (g Bo Bn : Nat), s4 = .pointer (some ⟨Bo, 0, none⟩) ∧ s5 = .pointer (some ⟨Bn, 0, none⟩) ∧ wx.heap[Bo]? = some (.cells #[.slice (some ⟨g, 0, none⟩) 0 0] 49 (0, 0)) ∧ wx.heap[Bn]? = some (.cells #[.int .i64 (n : Int)] 3 (0, 0)) ∧
    Acc wx w1.heap.size 76 3 (.slice (some ⟨g, 0, none⟩) 0 0) ([] : List Join) joinC ∧ Below w1.heap.size w1 wx ∧ w1.heap.size ≤ Bo)
  case first =>
    go_region
    all_goals
      go_wp2_with fail
      go_meet
      first
        | exact ⟨_, _, _, rfl, rfl, three0 _ _ _ _, three1 _ _ _ _, acc_empty (three2 _ _ _ _) (by omega), (by (repeat (first | exact Below.refl _ _ | assumption | (refine Below.drew ?_) | (refine below_drewN ?_ _) | (refine Below.alloc ?_ (by first | exact Nat.le_refl _ | (simp; done) | (simp; omega) | omega) _) | (refine Below.setCell ?_ (by first | exact Nat.le_refl _ | (simp; done) | (simp; omega) | omega) _) | (refine Below.trans ?_ (Below.mono (by assumption) (by first | exact Nat.le_refl _ | (simp; done) | (simp; omega) | omega)))))), (by omega)⟩
        | exact ⟨_, _, _, rfl, rfl, three0 _ _ _ _, three2 _ _ _ _, acc_empty (three1 _ _ _ _) (by omega), (by (repeat (first | exact Below.refl _ _ | assumption | (refine Below.drew ?_) | (refine below_drewN ?_ _) | (refine Below.alloc ?_ (by first | exact Nat.le_refl _ | (simp; done) | (simp; omega) | omega) _) | (refine Below.setCell ?_ (by first | exact Nat.le_refl _ | (simp; done) | (simp; omega) | omega) _) | (refine Below.trans ?_ (Below.mono (by assumption) (by first | exact Nat.le_refl _ | (simp; done) | (simp; omega) | omega)))))), (by omega)⟩
        | exact ⟨_, _, _, rfl, rfl, three1 _ _ _ _, three0 _ _ _ _, acc_empty (three2 _ _ _ _) (by omega), (by (repeat (first | exact Below.refl _ _ | assumption | (refine Below.drew ?_) | (refine below_drewN ?_ _) | (refine Below.alloc ?_ (by first | exact Nat.le_refl _ | (simp; done) | (simp; omega) | omega) _) | (refine Below.setCell ?_ (by first | exact Nat.le_refl _ | (simp; done) | (simp; omega) | omega) _) | (refine Below.trans ?_ (Below.mono (by assumption) (by first | exact Nat.le_refl _ | (simp; done) | (simp; omega) | omega)))))), (by omega)⟩
        | exact ⟨_, _, _, rfl, rfl, three1 _ _ _ _, three2 _ _ _ _, acc_empty (three0 _ _ _ _) (by omega), (by (repeat (first | exact Below.refl _ _ | assumption | (refine Below.drew ?_) | (refine below_drewN ?_ _) | (refine Below.alloc ?_ (by first | exact Nat.le_refl _ | (simp; done) | (simp; omega) | omega) _) | (refine Below.setCell ?_ (by first | exact Nat.le_refl _ | (simp; done) | (simp; omega) | omega) _) | (refine Below.trans ?_ (Below.mono (by assumption) (by first | exact Nat.le_refl _ | (simp; done) | (simp; omega) | omega)))))), (by omega)⟩
        | exact ⟨_, _, _, rfl, rfl, three2 _ _ _ _, three0 _ _ _ _, acc_empty (three1 _ _ _ _) (by omega), (by (repeat (first | exact Below.refl _ _ | assumption | (refine Below.drew ?_) | (refine below_drewN ?_ _) | (refine Below.alloc ?_ (by first | exact Nat.le_refl _ | (simp; done) | (simp; omega) | omega) _) | (refine Below.setCell ?_ (by first | exact Nat.le_refl _ | (simp; done) | (simp; omega) | omega) _) | (refine Below.trans ?_ (Below.mono (by assumption) (by first | exact Nat.le_refl _ | (simp; done) | (simp; omega) | omega)))))), (by omega)⟩
        | exact ⟨_, _, _, rfl, rfl, three2 _ _ _ _, three1 _ _ _ _, acc_empty (three0 _ _ _ _) (by omega), (by (repeat (first | exact Below.refl _ _ | assumption | (refine Below.drew ?_) | (refine below_drewN ?_ _) | (refine Below.alloc ?_ (by first | exact Nat.le_refl _ | (simp; done) | (simp; omega) | omega) _) | (refine Below.setCell ?_ (by first | exact Nat.le_refl _ | (simp; done) | (simp; omega) | omega) _) | (refine Below.trans ?_ (Below.mono (by assumption) (by first | exact Nat.le_refl _ | (simp; done) | (simp; omega) | omega)))))), (by omega)⟩
  case rest =>
    obtain ⟨g, Bo, Bn, rfl, rfl, ro, rn, hac, hBx, hBo⟩ := hcut
    have hst : ∀ (w : World) (a : Addr) (f : Fn) (x y : Array Value) (m : Mode), (store a (.func f x y) m).run Try.prog w = stored Try.prog w a (.func f x y) m := fun w a f x y m => run_store _ w a _ m rfl
    go_upto_region 6 with fail
    obtain ⟨Bu, hBu⟩ : ∃ j, Hid (wc.heap.size = j) := ⟨_, rfl⟩
    rw [hBu.out]
    obtain ⟨wu, hwu⟩ : ∃ z, Hid (wc.alloc (.cells #[.func (.func 90) #[] #[.pointer (some ⟨Bu, 0, none⟩), .pointer (some ⟨Bo, 0, none⟩), .pointer (some ⟨Bn, 0, none⟩)]] 104) = z) := ⟨_, rfl⟩
    rw [hwu.out]
    have ru : wu.heap[Bu]? = some (.cells #[.func (.func 90) #[] #[.pointer (some ⟨Bu, 0, none⟩), .pointer (some ⟨Bo, 0, none⟩), .pointer (some ⟨Bn, 0, none⟩)]] 104 (0, 0)) := by rw [← hwu.out, ← hBu.out]; exact heap_alloc_new wc _
    have bu : Below wc.heap.size wc wu := by rw [← hwu.out]; exact (Below.refl _ _).alloc (Nat.le_refl _) _
    have hBw : Below w1.heap.size w1 wu := hBx.trans (bu.mono hBx.size)
    have hBW := hB1.trans (hBw.mono hs1)
    have hCap : Caps wu w1.heap.size Bu Bo Bn (n : Int) (.slice (some ⟨g, 0, none⟩) 0 0) [] := ⟨ru, (bu.block Bo (heap_lt ro)).trans ro, (bu.block Bn (heap_lt rn)).trans rn, hac.below bu⟩
    have hgl := (hac.row (g := g) rfl).1
    replace e0 := keepcell e0 hBw
    replace e1 := keepcell e1 hBw
    replace e2 := keepcell e2 hBw
    have hRu := hR1.below hBw
    have cu := cell_of_one hCap.self
    have cn := cell_of_one hCap.num
    have hszu := hBw.size
    have HOK := Lib.hid (show layoutOk w h ps = true by have := HS.out; unfold canSew at this; rw [Bool.and_eq_true] at this; exact this.1)
    have hn12 := (layout_parts HOK.out).2.2.1
    rw [HLEN.out] at hn12
    clear ro rn hac hBx ru bu hB1 hBw hR1 hst
    refine wp_region_held_drew (S := fun v => v.cell? ⟨Bu, 0, none⟩ = some (.func (.func 90) #[] #[.pointer (some ⟨Bu, 0, none⟩), .pointer (some ⟨Bo, 0, none⟩), .pointer (some ⟨Bn, 0, none⟩)]) ∧ v.cell? ⟨jb, 0, none⟩ = some (.int .i64 w) ∧ v.cell? ⟨jb, 1, none⟩ = some (.int .i64 h) ∧ v.cell? ⟨jb, 2, none⟩ = some (.slice A n c) ∧ v.cell? ⟨Bn, 0, none⟩ = some (.int .i64 (n : Int))) (by kernel_rfl) ⟨cu, e0, e1, e2, cn⟩ (fun hHeld => ?_)
    have hC0 : Caps (World.drew wu) w1.heap.size Bu Bo Bn (n : Int) (.slice (some ⟨g, 0, none⟩) 0 0) [] := ⟨hCap.self, hCap.out, hCap.num, hCap.acc⟩
    have hB0 : Below W.heap.size W (World.drew wu) := hBW.drew
    have hR0 : Rd (World.drew wu) A n 5 ps patchC := hRu
    have hsz0 : w1.heap.size ≤ (World.drew wu).heap.size := hszu
    clear cu e0 e1 e2 cn hCap hBW hRu hszu
    obtain ⟨u0, hu0⟩ : ∃ v, Hid (World.drew wu = v) := ⟨_, rfl⟩
    rw [hu0.out] at hHeld hC0 hB0 hR0 hsz0 ⊢
    (refine take_yes (i := 0) (d := some 15) (v := ?_) rfl rfl (by kernel_rfl) (by kernel_rfl) (by kernel_rfl) (by rfl) (fun _ _ _ h => h) ?_ (by assumption) ?_; rotate_left; focus ((intro w' hSw; (try dsimp only at hSw); go_simp) <;> with_reducible rfl)); (try simp only [Act.put, List.setIfInBounds_toArray, List.set_cons_zero, List.set_cons_succ])
    (refine take_yes (i := 1) (d := some 16) (v := ?_) rfl rfl (by kernel_rfl) (by kernel_rfl) (by kernel_rfl) (by rfl) (fun _ _ _ h => h) ?_ (by assumption) ?_; rotate_left; focus ((intro w' hSw; (try dsimp only at hSw); go_simp) <;> with_reducible rfl)); (try simp only [Act.put, List.setIfInBounds_toArray, List.set_cons_zero, List.set_cons_succ])
    (refine take_yes (i := 2) (d := some 17) (v := ?_) rfl rfl (by kernel_rfl) (by kernel_rfl) (by kernel_rfl) (by rfl) (fun _ _ _ h => h) ?_ (by assumption) ?_; rotate_left; focus ((intro w' hSw; (try dsimp only at hSw); go_simp) <;> with_reducible rfl)); (try simp only [Act.put, List.setIfInBounds_toArray, List.set_cons_zero, List.set_cons_succ])
    refine wpAnyH_ready (rs := [3]) (by kernel_rfl) (by simp) ?_; refine AllReadyH.cons (o := _) rfl (fun K hK => ?_) AllReadyH.nil; go_simp; (go_at_call 91; refine (upToJ_any n _ (by omega)).mono ?_; rintro e u1 ⟨NA, d, rfl, hd, hO, bb⟩)
    refine hK.out _ _ ⟨keepcell hHeld.1 bb, keepcell hHeld.2.1 bb, keepcell hHeld.2.2.1 bb, keepcell hHeld.2.2.2.1 bb, keepcell hHeld.2.2.2.2 bb⟩ (fun hHeld => ?_)
    clear hK K; (try simp only [Act.put, List.setIfInBounds_toArray, List.set_cons_zero, List.set_cons_succ])
    have hC1 := hC0.below bb
    have hB1 := hB0.trans (bb.mono hB0.size)
    have hR1 := hR0.below bb
    have hN1 := hO.rd
    have hsz1 := Nat.le_trans hsz0 bb.size
    clear bb hC0 hB0 hR0 hO hsz0
    refine wpAnyH_ready (rs := [4]) (by kernel_rfl) (by simp) ?_; refine AllReadyH.cons (o := _) rfl (fun K hK => ?_) AllReadyH.nil; go_simp; (go_at_call 90; refine (unitI_N ps.length w h A n _ ps NA d (iota n) _ w1.heap.size Bu Bo Bn (n : Int) (.slice (some ⟨g, 0, none⟩) 0 0) [] (n : Int) (Nat.le_refl _) HOK.out HS.out hR1 hN1 hC1 hsz1 (by omega) (by omega) (by simp) (by omega)).mono ?_; rintro e u2 ⟨rfl, v2, hC2, hG2⟩)
    have hjo : jb ≠ Bo := by omega
    have hvj : (Value.slice (some ⟨g, 0, none⟩) 0 0).ownBlock ≠ some jb := fun e => by have e' : g = jb := (by injection e); omega
    have hjl := block_lt_of_cell hHeld.2.1
    have hkp : u2.heap[jb]? = u1.heap[jb]? := hG2.block jb hjl hjo hvj
    refine hK.out _ _ ⟨cell_of_one hC2.self, cell_blk hHeld.2.1 hkp, cell_blk hHeld.2.2.1 hkp, cell_blk hHeld.2.2.2.1 hkp, cell_of_one hC2.num⟩ (fun hHeld => ?_)
    clear hK K; (try simp only [Act.put, List.setIfInBounds_toArray, List.set_cons_zero, List.set_cons_succ])
    refine wpAnyH_done (by kernel_rfl) ?_ _
    have cO := cell_of_one hC2.out
    obtain ⟨J, q, rfl, hq, hO2⟩ := hC2.acc.own joinC_len
    have hB2 : Below W.heap.size W u2 := ⟨hG2.os.trans hB1.os, hG2.tape.trans hB1.tape, hG2.output.trans hB1.output, Nat.le_trans hB1.size hG2.size, fun k hk => (hG2.block k (Nat.lt_of_lt_of_le hk hB1.size) (by omega) (fun e => by have e' : g = k := (by injection e); omega)).trans (hB1.block k hk)⟩
    have HE := Lib.hid (joinsOf_at (l := ⟨w, h, ps⟩) HLEN.out)
    have HO2 := Lib.hid hO2
    clear hO2 hC2 hG2 hC1
    go_wp2
    exact bodyPost_ret (v := .tuple #[.slice J _ q, .bool true]) (by simp [results, Try.results49, go_sem]) rfl (jout_yes HS.out hq (by rw [HE.out]; exact HO2.out.mono hs1 (Nat.le_refl _)) hB2)

end Go.Proofs.Ytmjdgplkcocgmaa
