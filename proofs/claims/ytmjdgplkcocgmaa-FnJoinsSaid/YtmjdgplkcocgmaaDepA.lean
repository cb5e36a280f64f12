/-
  Contracts over joins: the depth.
-/
import Derived.Test.YtmjdgplkcocgmaaZPlain
import Derived.Test.YtmjdgplkcocgmaaScalA
import Derived.Test.YtmjdgplkcocgmaaFlatJoin
import Derived.Test.YtmjdgplkcocgmaaZWords
set_option linter.unusedVariables false
namespace Go.Proofs.Ytmjdgplkcocgmaa
open Go.RowKit

theorem depthI_any (A : Option Addr) (n c : Nat) (xs : List Join) (m : Int) (W : World) (h : Rd W A n 3 xs joinC) (hn : n ≤ 1048576) :
    Calls Try.prog 61 #[.slice A n c, .int .i64 m] W fun e w' => e = .returned (.int .i64 (depthOf xs m)) ∧ Below W.heap.size W w' := by
  have HLEN := Lib.hid h.len
  by_cases h1 : within m 1 12 = true
  · by_cases h2 : (n : Int) = m - 1
    · have HS := Lib.hid (show sizeOk m xs.length = true by unfold sizeOk; rw [h1, h.len, decide_eq_true h2]; rfl)
      have hm := within_iff.1 h1
      obtain ⟨q, rfl⟩ := Int.eq_ofNat_of_zero_le (show 0 ≤ m by omega)
      have hq : q ≤ 12 := by omega
      have hq1 : 1 ≤ q := by omega
      obtain rfl : q = n + 1 := by omega
      have hmk := mk_eq (P := Try.prog) 42 3 (.int .i64 0) 1 8 Try.underlying42 infoIntA (n + 1) (by omega) (by omega)
      rw [show ((n + 1 : Nat) : Int) = (n : Int) + 1 from by omega] at hmk
      clear hm h2 hq1
      go_enter Try.func61, Try.ntmps61
      go_wp2_with (go_at_call 74; refine (within_any _ _ _ _).mono ?_; rintro e w' ⟨rfl, rfl⟩)
      clear hmk
      have hacc0 := Acc.ints_made W W.heap.size 3 (n + 1) (by unfold maxLen; omega) (Nat.le_refl _) rfl
      go_loopw [5, 23] (fun o i wr => ∃ (k : Nat) (d : List Int), k ≤ n ∧ i = .int .i64 (k : Int) ∧ Acc wr W.heap.size 3 1 o d intC ∧ Hid (depths (n + 1) (xs.take k) = some d) ∧ d.length = n + 1 + k ∧ Below W.heap.size W wr ∧ W.heap.size ≤ wr.heap.size) (fun _ i _ => n - (intOf i).toNat)
      case atStart => exact ⟨0, _, Nat.zero_le _, rfl, hacc0, rfl, by simp, by (repeat (first | exact Below.refl _ _ | assumption | (refine Below.drew ?_) | (refine below_drewN ?_ _) | (refine Below.alloc ?_ (by first | exact Nat.le_refl _ | (simp; done) | (simp; omega) | omega) _) | (refine Below.setCell ?_ (by first | exact Nat.le_refl _ | (simp; done) | (simp; omega) | omega) _) | (refine Below.trans ?_ (Below.mono (by assumption) (by first | exact Nat.le_refl _ | (simp; done) | (simp; omega) | omega))))), by simp⟩
      case round =>
        obtain ⟨k, d, hk, rfl, hacc, hd, hl, hB, hz⟩ := hrel
        obtain ⟨A1, c1, rfl, hc1, hO⟩ := hacc.own intC_len
        by_cases hlt : k < n
        · obtain ⟨b, off, x, rfl, hbW, hx, g0, g1, g2⟩ := h.join hlt hB
          have HX := Lib.hid hx
          clear hx
          obtain ⟨u, a, b2⟩ := x
          simp only at g0 g1 g2
          have hdl := Lib.hid (show (d.length : Int) - 1 = (n : Int) + 1 + (k : Int) - 1 by omega)
          by_cases ca : within a 0 ((n : Int) + 1 + (k : Int) - 1) = true
          · by_cases cb : within b2 0 ((n : Int) + 1 + (k : Int) - 1) = true
            · have ha := within_iff.1 ca
              have hb := within_iff.1 cb
              obtain ⟨p, rfl⟩ := Int.eq_ofNat_of_zero_le ha.1
              obtain ⟨r, rfl⟩ := Int.eq_ofNat_of_zero_le hb.1
              have hpd : p < d.length := by omega
              have hrd : r < d.length := by omega
              obtain ⟨g, T, rfl, hgl, hgw, hP⟩ := hO.2 (by omega)
              have hcp := hP.int_at rfl hpd
              have hcr := hP.int_at rfl hrd
              have hbd := depths_bd hd.out
              have hvp := hbd.2 p
              have hvr := hbd.2 r
              have hkl : (xs.take k).length ≤ k := List.length_take_le _ _
              have HST := Lib.hid (depStep_yes (d := d) (j := ⟨u, p, r⟩) (by rw [hdl.out]; exact ca) (by rw [hdl.out]; exact cb))
              obtain ⟨vp, hp⟩ : ∃ v, Hid (v = d.getD p 0) := ⟨_, rfl⟩
              obtain ⟨vr, hr⟩ : ∃ v, Hid (v = d.getD r 0) := ⟨_, rfl⟩
              rw [← hp.out] at hcp hvp
              rw [← hr.out] at hcr hvr
              have hvp1 : 0 ≤ vp ∧ vp ≤ 12 := by omega
              have hvr1 : 0 ≤ vr ∧ vr ≤ 12 := by omega
              clear hvp hvr hkl hbd ha hb hP hO
              have hpi : (p : Int) < (n : Int) + 1 + (k : Int) := by omega
              have hri : (r : Int) < (n : Int) + 1 + (k : Int) := by omega
              go_wp2_with (go_at_call 74; refine (within_any _ _ _ _).mono ?_; rintro e w' ⟨rfl, rfl⟩)
              have hn1 : (wr.alloc (.cells #[.bool u, .int .i64 p, .int .i64 r] 76)).cell? ⟨wr.heap.size, 1, none⟩ = some (.int .i64 p) := by rw [cell_of_row _ _ _ _ _ _ (heap_alloc_new wr _)]; rfl
              have hn2 : (wr.alloc (.cells #[.bool u, .int .i64 p, .int .i64 r] 76)).cell? ⟨wr.heap.size, 2, none⟩ = some (.int .i64 r) := by rw [cell_of_row _ _ _ _ _ _ (heap_alloc_new wr _)]; rfl
              have hb1 : Below wr.heap.size wr (wr.alloc (.cells #[.bool u, .int .i64 p, .int .i64 r] 76)) := (Below.refl _ _).alloc (Nat.le_refl _) _
              have hcp1 := keepcell hcp hb1
              have hcr1 := keepcell hcr hb1
              have hacc1 := hacc.below hb1
              have hB1 : Below W.heap.size W (wr.alloc (.cells #[.bool u, .int .i64 p, .int .i64 r] 76)) := by (repeat (first | exact Below.refl _ _ | assumption | (refine Below.drew ?_) | (refine below_drewN ?_ _) | (refine Below.alloc ?_ (by first | exact Nat.le_refl _ | (simp; done) | (simp; omega) | omega) _) | (refine Below.setCell ?_ (by first | exact Nat.le_refl _ | (simp; done) | (simp; omega) | omega) _) | (refine Below.trans ?_ (Below.mono (by assumption) (by first | exact Nat.le_refl _ | (simp; done) | (simp; omega) | omega)))))
              have hz1 : wr.heap.size < (wr.alloc (.cells #[.bool u, .int .i64 p, .int .i64 r] 76)).heap.size := by simp
              generalize wr.alloc (.cells #[.bool u, .int .i64 p, .int .i64 r] 76) = w1 at hn1 hn2 hcp1 hcr1 hacc1 hB1 hz1 ⊢
              clear hb1 hcp hcr hB hacc
              generalize wr.heap.size = j at hn1 hn2 hz1 hgw ⊢
              rw [hl] at hacc1
              have hwrap := Lib.hid (show IntKind.i64.wrap (1 + if vp < vr then vr else vp) = 1 + max vp vr by rw [IntKind.wrap_i64]; split <;> omega)
              have hown1 : Acc ((w1.alloc (.cells #[.int .i64 (IntKind.i64.wrap (1 + if vp < vr then vr else vp))] 3)).drew) W.heap.size 3 1 (.slice (some ⟨g, 0, none⟩) (n + 1 + k) c1) d intC := (hacc1.alloc _).drew
              have hlo1 : W.heap.size ≤ ((w1.alloc (.cells #[.int .i64 (IntKind.i64.wrap (1 + if vp < vr then vr else vp))] 3)).drew).heap.size := by simp [World.drew]; omega
              have hjg : some j ≠ Value.ownBlock (.slice (some ⟨g, 0, none⟩) (n + 1 + k) c1) := by simp [Value.ownBlock]; omega
              have hpl : p < d.length * 1 := by omega
              have hrl : r < d.length * 1 := by omega
              have hln1 : d.length + 1 ≤ 4294967296 := by omega
              go_region_held3 (fun w' => w'.cell? ⟨j, 1, none⟩ = some (.int .i64 p) ∧ w'.cell? ⟨j, 2, none⟩ = some (.int .i64 r) ∧ w'.cell? ⟨g, p, none⟩ = some (.int .i64 vp) ∧ w'.cell? ⟨g, r, none⟩ = some (.int .i64 vr)) (first | go_keep | exact ⟨cell_far rfl hgrow hn1 hjg, cell_far rfl hgrow hn2 hjg, cell_same rfl (hkeep g rfl p hpl) hcp1, cell_same rfl (hkeep g rfl r hrl) hcr1⟩) ((refine step_acc1 rfl _ _ 42 rfl W.heap.size 3 (.int .i64 0) 1 8 Try.underlying42 infoIntA rfl Nat.one_pos (.slice (some ⟨g, 0, none⟩) (n + 1 + k) c1) d intC (IntKind.i64.wrap (1 + if vp < vr then vr else vp)) rfl hown1 _ _ _ _ (heap_alloc_new w1 _) rfl rfl rfl (fun u hu => by rw [List.mem_singleton.1 hu]; rfl) hln1 (by decide) hlo1 _ rfl ?_; intro v' w2 hacc2 hgrow hat hkeep))
              go_wp2_with fail
              go_roundw
              case rel =>
                rw [hwrap.out] at hacc2
                refine ⟨k + 1, _, by omega, by go_num, hacc2, ?_, by simp; omega, ?_, ?_⟩
                · have := runL_step HX.out hd.out HST.out
                  simp only [Int.toNat_natCast] at this
                  rw [← hp.out, ← hr.out] at this
                  exact this
                · exact hown1.grow_below ((hB1.alloc (by omega) _).drew) hgrow (Nat.le_refl _) hlo1
                · exact Nat.le_trans hlo1 hgrow.size
              case measure => simp [intOf]; omega
            · have cb' : within b2 0 ((n : Int) + 1 + (k : Int) - 1) = false := by simpa using cb
              have ha := within_iff.1 ca
              have HN := Lib.hid (depStep_noB (d := d) (j := ⟨u, a, b2⟩) (by rw [hdl.out]; exact cb'))
              clear cb ha hO
              go_wp2_with (go_at_call 74; refine (within_any _ _ _ _).mono ?_; rintro e w' ⟨rfl, rfl⟩)
              go_ret
              exact ⟨ret_i (depth_bad (Int.toNat_natCast (n + 1)) (runL_fail HX.out hd.out HN.out)), by (repeat (first | exact Below.refl _ _ | assumption | (refine Below.drew ?_) | (refine below_drewN ?_ _) | (refine Below.alloc ?_ (by first | exact Nat.le_refl _ | (simp; done) | (simp; omega) | omega) _) | (refine Below.setCell ?_ (by first | exact Nat.le_refl _ | (simp; done) | (simp; omega) | omega) _) | (refine Below.trans ?_ (Below.mono (by assumption) (by first | exact Nat.le_refl _ | (simp; done) | (simp; omega) | omega)))))⟩
          · have ca' : within a 0 ((n : Int) + 1 + (k : Int) - 1) = false := by simpa using ca
            have HN := Lib.hid (depStep_noA (d := d) (j := ⟨u, a, b2⟩) (by rw [hdl.out]; exact ca'))
            clear ca hO
            go_wp2_with (go_at_call 74; refine (within_any _ _ _ _).mono ?_; rintro e w' ⟨rfl, rfl⟩)
            go_ret
            exact ⟨ret_i (depth_bad (Int.toNat_natCast (n + 1)) (runL_fail HX.out hd.out HN.out)), by (repeat (first | exact Below.refl _ _ | assumption | (refine Below.drew ?_) | (refine below_drewN ?_ _) | (refine Below.alloc ?_ (by first | exact Nat.le_refl _ | (simp; done) | (simp; omega) | omega) _) | (refine Below.setCell ?_ (by first | exact Nat.le_refl _ | (simp; done) | (simp; omega) | omega) _) | (refine Below.trans ?_ (Below.mono (by assumption) (by first | exact Nat.le_refl _ | (simp; done) | (simp; omega) | omega)))))⟩
        · obtain rfl : k = n := by omega
          obtain ⟨g, T, rfl, hgl, hgw, hP⟩ := hO.2 (by omega)
          have hcl := hP.int_at rfl (show d.length - 1 < d.length by omega)
          have hfin := Lib.hid (show d.getD (d.length - 1) 0 = depthOf xs ((k + 1 : Nat) : Int) from depth_end HS.out (Int.toNat_natCast (k + 1)) (by have := hd.out; rw [List.take_of_length_le (Nat.le_of_eq HLEN.out)] at this; exact this))
          rw [hfin.out] at hcl
          rw [show d.length - 1 = k + k by omega] at hcl
          clear hP hO
          go_wp2
          go_ret
          exact ⟨rfl, hB⟩
    · have h2' : ((n : Int) == m - 1) = false := by rw [beq_eq_false_iff_ne]; exact h2
      have HN := Lib.hid (show sizeOk m xs.length = false by unfold sizeOk; rw [h.len, decide_eq_false h2, Bool.and_false])
      have hm := within_iff.1 h1
      go_enter Try.func61, Try.ntmps61
      go_wp2_with (go_at_call 74; refine (within_any _ _ _ _).mono ?_; rintro e w' ⟨rfl, rfl⟩)
      go_ret
      exact ⟨ret_i (depth_no HN.out), Below.refl _ _⟩
  · have h1' : within m 1 12 = false := by simpa using h1
    have HN := Lib.hid (show sizeOk m xs.length = false by unfold sizeOk; rw [h1']; rfl)
    clear h1
    go_enter Try.func61, Try.ntmps61
    go_wp2_with (go_at_call 74; refine (within_any _ _ _ _).mono ?_; rintro e w' ⟨rfl, rfl⟩)
    go_ret
    exact ⟨ret_i (depth_no HN.out), Below.refl _ _⟩

theorem depthS_any (A : Option Addr) (n c : Nat) (xs : List Join) (m : Int) (W : World) (h : Rd W A n 3 xs joinC) (hn : n ≤ 1048576) :
    Calls Try.prog 67 #[.slice A n c, .int .i64 m] W fun e w' => e = .returned (.int .i64 (depthOf xs m)) ∧ Below W.heap.size W w' := by
  have HLEN := Lib.hid h.len
  by_cases h1 : within m 1 12 = true
  · by_cases h2 : (n : Int) = m - 1
    · have HS := Lib.hid (show sizeOk m xs.length = true by unfold sizeOk; rw [h1, h.len, decide_eq_true h2]; rfl)
      have hm := within_iff.1 h1
      obtain ⟨q, rfl⟩ := Int.eq_ofNat_of_zero_le (show 0 ≤ m by omega)
      have hq : q ≤ 12 := by omega
      have hq1 : 1 ≤ q := by omega
      obtain rfl : q = n + 1 := by omega
      have hmk := mk_eq (P := Try.prog) 42 3 (.int .i64 0) 1 8 Try.underlying42 infoIntA (n + 1) (by omega) (by omega)
      rw [show ((n + 1 : Nat) : Int) = (n : Int) + 1 from by omega] at hmk
      clear hm h2 hq1
      go_enter Try.func67, Try.ntmps67
      go_wp2_with (go_at_call 70; refine (l01In_any _ _ _ _).mono ?_; rintro e w' ⟨rfl, rfl⟩)
      clear hmk
      have hacc0 := Acc.ints_made W W.heap.size 3 (n + 1) (by unfold maxLen; omega) (Nat.le_refl _) rfl
      go_loopw [5, 6] (fun o i wr => ∃ (k : Nat) (d : List Int), k ≤ n ∧ i = .int .i64 (k : Int) ∧ Acc wr W.heap.size 3 1 o d intC ∧ Hid (depths (n + 1) (xs.take k) = some d) ∧ d.length = n + 1 + k ∧ Below W.heap.size W wr ∧ W.heap.size ≤ wr.heap.size) (fun _ i _ => n - (intOf i).toNat)
      case atStart => exact ⟨0, _, Nat.zero_le _, rfl, hacc0, rfl, by simp, by (repeat (first | exact Below.refl _ _ | assumption | (refine Below.drew ?_) | (refine below_drewN ?_ _) | (refine Below.alloc ?_ (by first | exact Nat.le_refl _ | (simp; done) | (simp; omega) | omega) _) | (refine Below.setCell ?_ (by first | exact Nat.le_refl _ | (simp; done) | (simp; omega) | omega) _) | (refine Below.trans ?_ (Below.mono (by assumption) (by first | exact Nat.le_refl _ | (simp; done) | (simp; omega) | omega))))), by simp⟩
      case round =>
        obtain ⟨k, d, hk, rfl, hacc, hd, hl, hB, hz⟩ := hrel
        obtain ⟨A1, c1, rfl, hc1, hO⟩ := hacc.own intC_len
        by_cases hlt : k < n
        · obtain ⟨b, off, x, rfl, hbW, hx, g0, g1, g2⟩ := h.join hlt hB
          have HX := Lib.hid hx
          clear hx
          obtain ⟨u, a, b2⟩ := x
          simp only at g0 g1 g2
          have hdl := Lib.hid (show (d.length : Int) - 1 = (n : Int) + 1 + (k : Int) - 1 by omega)
          by_cases ca : within a 0 ((n : Int) + 1 + (k : Int) - 1) = true
          · by_cases cb : within b2 0 ((n : Int) + 1 + (k : Int) - 1) = true
            · have ha := within_iff.1 ca
              have hb := within_iff.1 cb
              obtain ⟨p, rfl⟩ := Int.eq_ofNat_of_zero_le ha.1
              obtain ⟨r, rfl⟩ := Int.eq_ofNat_of_zero_le hb.1
              have hpd : p < d.length := by omega
              have hrd : r < d.length := by omega
              obtain ⟨g, T, rfl, hgl, hgw, hP⟩ := hO.2 (by omega)
              have hcp := hP.int_at rfl hpd
              have hcr := hP.int_at rfl hrd
              have hbd := depths_bd hd.out
              have hvp := hbd.2 p
              have hvr := hbd.2 r
              have hkl : (xs.take k).length ≤ k := List.length_take_le _ _
              have HST := Lib.hid (depStep_yes (d := d) (j := ⟨u, p, r⟩) (by rw [hdl.out]; exact ca) (by rw [hdl.out]; exact cb))
              obtain ⟨vp, hp⟩ : ∃ v, Hid (v = d.getD p 0) := ⟨_, rfl⟩
              obtain ⟨vr, hr⟩ : ∃ v, Hid (v = d.getD r 0) := ⟨_, rfl⟩
              rw [← hp.out] at hcp hvp
              rw [← hr.out] at hcr hvr
              have hvp1 : 0 ≤ vp ∧ vp ≤ 12 := by omega
              have hvr1 : 0 ≤ vr ∧ vr ≤ 12 := by omega
              clear hvp hvr hkl hbd ha hb hP hO
              have hpi : (p : Int) < (n : Int) + 1 + (k : Int) := by omega
              have hri : (r : Int) < (n : Int) + 1 + (k : Int) := by omega
              go_wp2_with (go_at_call 70; refine (l01In_any _ _ _ _).mono ?_; rintro e w' ⟨rfl, rfl⟩)
              have hn1 : (wr.alloc (.cells #[.bool u, .int .i64 p, .int .i64 r] 76)).cell? ⟨wr.heap.size, 1, none⟩ = some (.int .i64 p) := by rw [cell_of_row _ _ _ _ _ _ (heap_alloc_new wr _)]; rfl
              have hn2 : (wr.alloc (.cells #[.bool u, .int .i64 p, .int .i64 r] 76)).cell? ⟨wr.heap.size, 2, none⟩ = some (.int .i64 r) := by rw [cell_of_row _ _ _ _ _ _ (heap_alloc_new wr _)]; rfl
              have hb1 : Below wr.heap.size wr (wr.alloc (.cells #[.bool u, .int .i64 p, .int .i64 r] 76)) := (Below.refl _ _).alloc (Nat.le_refl _) _
              have hcp1 := keepcell hcp hb1
              have hcr1 := keepcell hcr hb1
              have hacc1 := hacc.below hb1
              have hB1 : Below W.heap.size W (wr.alloc (.cells #[.bool u, .int .i64 p, .int .i64 r] 76)) := by (repeat (first | exact Below.refl _ _ | assumption | (refine Below.drew ?_) | (refine below_drewN ?_ _) | (refine Below.alloc ?_ (by first | exact Nat.le_refl _ | (simp; done) | (simp; omega) | omega) _) | (refine Below.setCell ?_ (by first | exact Nat.le_refl _ | (simp; done) | (simp; omega) | omega) _) | (refine Below.trans ?_ (Below.mono (by assumption) (by first | exact Nat.le_refl _ | (simp; done) | (simp; omega) | omega)))))
              have hz1 : wr.heap.size < (wr.alloc (.cells #[.bool u, .int .i64 p, .int .i64 r] 76)).heap.size := by simp
              generalize wr.alloc (.cells #[.bool u, .int .i64 p, .int .i64 r] 76) = w1 at hn1 hn2 hcp1 hcr1 hacc1 hB1 hz1 ⊢
              clear hb1 hcp hcr hB hacc
              generalize wr.heap.size = j at hn1 hn2 hz1 hgw ⊢
              rw [hl] at hacc1
              have hwrap := Lib.hid (show IntKind.i64.wrap (1 + if vp < vr then vr else vp) = 1 + max vp vr by rw [IntKind.wrap_i64]; split <;> omega)
              have hown1 : Acc ((w1.alloc (.cells #[.int .i64 (IntKind.i64.wrap (1 + if vp < vr then vr else vp))] 3)).drew) W.heap.size 3 1 (.slice (some ⟨g, 0, none⟩) (n + 1 + k) c1) d intC := (hacc1.alloc _).drew
              have hlo1 : W.heap.size ≤ ((w1.alloc (.cells #[.int .i64 (IntKind.i64.wrap (1 + if vp < vr then vr else vp))] 3)).drew).heap.size := by simp [World.drew]; omega
              have hjg : some j ≠ Value.ownBlock (.slice (some ⟨g, 0, none⟩) (n + 1 + k) c1) := by simp [Value.ownBlock]; omega
              have hpl : p < d.length * 1 := by omega
              have hrl : r < d.length * 1 := by omega
              have hln1 : d.length + 1 ≤ 4294967296 := by omega
              go_region_held3 (fun w' => w'.cell? ⟨j, 1, none⟩ = some (.int .i64 p) ∧ w'.cell? ⟨j, 2, none⟩ = some (.int .i64 r) ∧ w'.cell? ⟨g, p, none⟩ = some (.int .i64 vp) ∧ w'.cell? ⟨g, r, none⟩ = some (.int .i64 vr)) (first | go_keep | exact ⟨cell_far rfl hgrow hn1 hjg, cell_far rfl hgrow hn2 hjg, cell_same rfl (hkeep g rfl p hpl) hcp1, cell_same rfl (hkeep g rfl r hrl) hcr1⟩) ((refine step_acc1 rfl _ _ 42 rfl W.heap.size 3 (.int .i64 0) 1 8 Try.underlying42 infoIntA rfl Nat.one_pos (.slice (some ⟨g, 0, none⟩) (n + 1 + k) c1) d intC (IntKind.i64.wrap (1 + if vp < vr then vr else vp)) rfl hown1 _ _ _ _ (heap_alloc_new w1 _) rfl rfl rfl (fun u hu => by rw [List.mem_singleton.1 hu]; rfl) hln1 (by decide) hlo1 _ rfl ?_; intro v' w2 hacc2 hgrow hat hkeep))
              go_wp2_with fail
              go_roundw
              case rel =>
                rw [hwrap.out] at hacc2
                refine ⟨k + 1, _, by omega, by go_num, hacc2, ?_, by simp; omega, ?_, ?_⟩
                · have := runL_step HX.out hd.out HST.out
                  simp only [Int.toNat_natCast] at this
                  rw [← hp.out, ← hr.out] at this
                  exact this
                · exact hown1.grow_below ((hB1.alloc (by omega) _).drew) hgrow (Nat.le_refl _) hlo1
                · exact Nat.le_trans hlo1 hgrow.size
              case measure => simp [intOf]; omega
            · have cb' : within b2 0 ((n : Int) + 1 + (k : Int) - 1) = false := by simpa using cb
              have ha := within_iff.1 ca
              have HN := Lib.hid (depStep_noB (d := d) (j := ⟨u, a, b2⟩) (by rw [hdl.out]; exact cb'))
              clear cb ha hO
              go_wp2_with (go_at_call 70; refine (l01In_any _ _ _ _).mono ?_; rintro e w' ⟨rfl, rfl⟩)
              go_ret
              exact ⟨ret_i (depth_bad (Int.toNat_natCast (n + 1)) (runL_fail HX.out hd.out HN.out)), by (repeat (first | exact Below.refl _ _ | assumption | (refine Below.drew ?_) | (refine below_drewN ?_ _) | (refine Below.alloc ?_ (by first | exact Nat.le_refl _ | (simp; done) | (simp; omega) | omega) _) | (refine Below.setCell ?_ (by first | exact Nat.le_refl _ | (simp; done) | (simp; omega) | omega) _) | (refine Below.trans ?_ (Below.mono (by assumption) (by first | exact Nat.le_refl _ | (simp; done) | (simp; omega) | omega)))))⟩
          · have ca' : within a 0 ((n : Int) + 1 + (k : Int) - 1) = false := by simpa using ca
            have HN := Lib.hid (depStep_noA (d := d) (j := ⟨u, a, b2⟩) (by rw [hdl.out]; exact ca'))
            clear ca hO
            go_wp2_with (go_at_call 70; refine (l01In_any _ _ _ _).mono ?_; rintro e w' ⟨rfl, rfl⟩)
            go_ret
            exact ⟨ret_i (depth_bad (Int.toNat_natCast (n + 1)) (runL_fail HX.out hd.out HN.out)), by (repeat (first | exact Below.refl _ _ | assumption | (refine Below.drew ?_) | (refine below_drewN ?_ _) | (refine Below.alloc ?_ (by first | exact Nat.le_refl _ | (simp; done) | (simp; omega) | omega) _) | (refine Below.setCell ?_ (by first | exact Nat.le_refl _ | (simp; done) | (simp; omega) | omega) _) | (refine Below.trans ?_ (Below.mono (by assumption) (by first | exact Nat.le_refl _ | (simp; done) | (simp; omega) | omega)))))⟩
        · obtain rfl : k = n := by omega
          obtain ⟨g, T, rfl, hgl, hgw, hP⟩ := hO.2 (by omega)
          have hcl := hP.int_at rfl (show d.length - 1 < d.length by omega)
          have hfin := Lib.hid (show d.getD (d.length - 1) 0 = depthOf xs ((k + 1 : Nat) : Int) from depth_end HS.out (Int.toNat_natCast (k + 1)) (by have := hd.out; rw [List.take_of_length_le (Nat.le_of_eq HLEN.out)] at this; exact this))
          rw [hfin.out] at hcl
          rw [show d.length - 1 = k + k by omega] at hcl
          clear hP hO
          go_wp2
          go_ret
          exact ⟨rfl, hB⟩
    · have h2' : ((n : Int) == m - 1) = false := by rw [beq_eq_false_iff_ne]; exact h2
      have HN := Lib.hid (show sizeOk m xs.length = false by unfold sizeOk; rw [h.len, decide_eq_false h2, Bool.and_false])
      have hm := within_iff.1 h1
      go_enter Try.func67, Try.ntmps67
      go_wp2_with (go_at_call 70; refine (l01In_any _ _ _ _).mono ?_; rintro e w' ⟨rfl, rfl⟩)
      go_ret
      exact ⟨ret_i (depth_no HN.out), Below.refl _ _⟩
  · have h1' : within m 1 12 = false := by simpa using h1
    have HN := Lib.hid (show sizeOk m xs.length = false by unfold sizeOk; rw [h1']; rfl)
    clear h1
    go_enter Try.func67, Try.ntmps67
    go_wp2_with (go_at_call 70; refine (l01In_any _ _ _ _).mono ?_; rintro e w' ⟨rfl, rfl⟩)
    go_ret
    exact ⟨ret_i (depth_no HN.out), Below.refl _ _⟩

end Go.Proofs.Ytmjdgplkcocgmaa
