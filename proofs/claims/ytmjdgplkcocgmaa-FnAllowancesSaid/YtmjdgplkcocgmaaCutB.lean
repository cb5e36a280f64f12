/-
  Contracts over layouts: the reference's cuts of each patch; the cloth.
-/
import Derived.Test.YtmjdgplkcocgmaaCutA
set_option linter.unusedVariables false
namespace Go.Proofs.Ytmjdgplkcocgmaa
open Go.RowKit

theorem layout_pos {w h : Int} {ps : List Patch} (hl : layoutOk w h ps = true) : 0 < ps.length := by
  have := (layout_parts hl).2.2.1
  omega

set_option maxRecDepth 100000 in
set_option maxHeartbeats 2000000 in
theorem cutsS_any (w h : Int) (A : Option Addr) (n c : Nat) (ps : List Patch) (s : Int) (W : World) (hR : Rd W A n 5 ps patchC) (hN : n ≤ 1048576) :
    Calls Try.prog 16 #[.agg #[.int .i64 w, .int .i64 h, .slice A n c], .int .i64 s] W (MadeSS W (patchCuts w h ps s).length (patchCuts w h ps s) intC) := by
  have HLEN := Lib.hid hR.len
  obtain ⟨jb, hjb⟩ : ∃ j, Hid (j = W.heap.size) := ⟨_, rfl⟩
  have e0 : (W.alloc (.cells #[.int .i64 w, .int .i64 h, .slice A n c] 30)).cell? ⟨jb, 0, none⟩ = some (.int .i64 w) := by rw [hjb.out, cell_of_row _ _ _ _ _ _ (heap_alloc_new W _)]; rfl
  have e1 : (W.alloc (.cells #[.int .i64 w, .int .i64 h, .slice A n c] 30)).cell? ⟨jb, 1, none⟩ = some (.int .i64 h) := by rw [hjb.out, cell_of_row _ _ _ _ _ _ (heap_alloc_new W _)]; rfl
  have e2 : (W.alloc (.cells #[.int .i64 w, .int .i64 h, .slice A n c] 30)).cell? ⟨jb, 2, none⟩ = some (.slice A n c) := by rw [hjb.out, cell_of_row _ _ _ _ _ _ (heap_alloc_new W _)]; rfl
  have hsz1 : (W.alloc (.cells #[.int .i64 w, .int .i64 h, .slice A n c] 30)).heap.size = jb + 1 := by rw [hjb.out]; simp
  have hacc0 := Acc.lit0 (W.alloc (.cells #[.int .i64 w, .int .i64 h, .slice A n c] 30)) (jb + 1) 42 1 hdC (Nat.le_of_eq hsz1.symm) rfl
  rw [hsz1] at hacc0
  have hBa : Below W.heap.size W ((W.alloc (.cells #[.int .i64 w, .int .i64 h, .slice A n c] 30)).alloc (.cells #[] 42)) := by (repeat (first | exact Below.refl _ _ | assumption | (refine Below.drew ?_) | (refine below_drewN ?_ _) | (refine Below.alloc ?_ (by first | exact Nat.le_refl _ | (simp; done) | (simp; omega) | omega) _) | (refine Below.setCell ?_ (by first | exact Nat.le_refl _ | (simp; done) | (simp; omega) | omega) _) | (refine Below.trans ?_ (Below.mono (by assumption) (by first | exact Nat.le_refl _ | (simp; done) | (simp; omega) | omega)))))
  have hja : jb + 1 ≤ ((W.alloc (.cells #[.int .i64 w, .int .i64 h, .slice A n c] 30)).alloc (.cells #[] 42)).heap.size := by rw [hjb.out]; simp
  have e0a := keepcell e0 ((Below.refl _ _).alloc (Nat.le_refl _) (.cells #[] 42))
  have e1a := keepcell e1 ((Below.refl _ _).alloc (Nat.le_refl _) (.cells #[] 42))
  have e2a := keepcell e2 ((Below.refl _ _).alloc (Nat.le_refl _) (.cells #[] 42))
  clear e0 e1 e2 hsz1
  rcases hl : layoutOk w h ps with _ | _
  · rw [cuts_no1 hl]
    go_enter Try.func16, Try.ntmps16
    go_wp2
    rw [← hjb.out]
    generalize (W.alloc (.cells #[.int .i64 w, .int .i64 h, .slice A n c] 30)).alloc (.cells #[] 42) = Wa at hacc0 hBa hja e0a e1a e2a ⊢
    go_loopw [5, 6] (fun o i wr => o = .slice (some ⟨jb + 1, 0, none⟩) 0 0 ∧ i = .int .i64 0 ∧ wr = Wa) (fun _ _ _ => 0)
    case atStart => exact ⟨rfl, rfl, rfl⟩
    case round =>
      obtain ⟨rfl, rfl, rfl⟩ := hrel
      have hRw := hR.below hBa
      by_cases h0 : 0 < n
      · go_wp2_with (go_at_call 58; refine (layoutS_any _ _ _ _ _ ps _ hRw hN).mono ?_; rintro e w1 ⟨rfl, hb1⟩; rw [hl])
        go_ret
        exact (((hacc0.below hb1).mono (Nat.le_succ_of_le (Nat.le_of_eq hjb.out.symm))).madeSS (RowsP.nil _ _ _ _) (Apart.nil _) (hBa.trans (hb1.mono hBa.size)) rfl)
      · go_wp2
        go_ret
        exact ((hacc0.mono (Nat.le_succ_of_le (Nat.le_of_eq hjb.out.symm))).madeSS (RowsP.nil _ _ _ _) (Apart.nil _) hBa rfl)
  have hpos := layout_pos hl
  rw [HLEN.out] at hpos
  rcases hs : within s 1 40 with _ | _
  · rw [cuts_no2 hs]
    go_enter Try.func16, Try.ntmps16
    go_wp2
    rw [← hjb.out]
    generalize (W.alloc (.cells #[.int .i64 w, .int .i64 h, .slice A n c] 30)).alloc (.cells #[] 42) = Wa at hacc0 hBa hja e0a e1a e2a ⊢
    go_loopw [5, 6] (fun o i wr => o = .slice (some ⟨jb + 1, 0, none⟩) 0 0 ∧ i = .int .i64 0 ∧ wr = Wa) (fun _ _ _ => 0)
    case atStart => exact ⟨rfl, rfl, rfl⟩
    case round =>
      obtain ⟨rfl, rfl, rfl⟩ := hrel
      have hRw := hR.below hBa
      go_wp2_with (first | (go_at_call 58; refine (layoutS_any _ _ _ _ _ ps _ hRw hN).mono ?_; rintro e w1 ⟨rfl, hb1⟩; rw [hl]) | (go_at_call 70; refine (l01In_any _ _ _ _).mono ?_; rintro e w' ⟨rfl, rfl⟩))
      go_ret
      exact (((hacc0.below hb1).mono (Nat.le_succ_of_le (Nat.le_of_eq hjb.out.symm))).madeSS (RowsP.nil _ _ _ _) (Apart.nil _) (hBa.trans (hb1.mono hBa.size)) rfl)
  · rw [cuts_yes hl hs, List.length_map, HLEN.out]
    obtain ⟨hw, hh, hn12, hall, _, _⟩ := layout_parts hl
    rw [HLEN.out] at hn12
    have HALL := Lib.hid hall
    have hsb := within_iff.1 hs
    have hwb : w ≤ 12 := hw.2
    have hhb : h ≤ 12 := hh.2
    clear hall hw hh
    go_enter Try.func16, Try.ntmps16
    go_wp2
    rw [← hjb.out]
    generalize (W.alloc (.cells #[.int .i64 w, .int .i64 h, .slice A n c] 30)).alloc (.cells #[] 42) = Wa at hacc0 hBa hja e0a e1a e2a ⊢
    go_loopw [5, 6] (fun o i wr => ∃ (k : Nat) (hs : List Hd), k ≤ n ∧ i = .int .i64 (k : Int) ∧ Acc wr (jb + 1) 42 1 o hs hdC ∧ RowsP wr (jb + 1) wr.heap.size hs ((ps.map (cutRow s)).take k) intC ∧ Apart o hs ∧ wr.cell? ⟨jb, 0, none⟩ = some (.int .i64 w) ∧ wr.cell? ⟨jb, 1, none⟩ = some (.int .i64 h) ∧ wr.cell? ⟨jb, 2, none⟩ = some (.slice A n c) ∧ Below W.heap.size W wr ∧ jb + 1 ≤ wr.heap.size) (fun _ i _ => n - (intOf i).toNat)
    case atStart => exact ⟨0, [], Nat.zero_le _, rfl, hacc0, RowsP.nil _ _ _ _, Apart.nil _, e0a, e1a, e2a, hBa, hja⟩
    case round =>
      clear hacc0 hBa hja e0a e1a e2a
      obtain ⟨k, hs, hk, rfl, hacc, hrows, hap, q0, q1, q2, hB, hz⟩ := hrel
      by_cases hlt : k < n
      · have hRw := hR.below hB
        obtain ⟨b, off, x, rfl, hbW, hx, g0, g1, g2, g3, g4⟩ := hR.patch hlt hB
        have hxb := patchIn_bd (List.all_eq_true.1 HALL.out x (List.mem_of_getElem? hx))
        have HM := Lib.hid (map_take_succ (f := cutRow s) hx)
        have hsl : hs.length = k := by rw [hrows.1, List.length_take, List.length_map, HLEN.out]; omega
        clear hx
        obtain ⟨pX, pY, pW, pH, pC⟩ := x
        simp only at g0 g1 g2 g3 g4 hxb
        have hm1 := mul_bd40 (a := pW) (s := s) (by omega) (by omega) (by omega) (by omega)
        have hm2 := mul_bd40 (a := pH) (s := s) (by omega) (by omega) (by omega) (by omega)
        have HM2 := Lib.hid (show cutRow s ⟨pX, pY, pW, pH, pC⟩ = [cutSize (pW * s), cutSize (pH * s)] from rfl)
        go_wp2_with (first | (go_at_call 58; refine (layoutS_any _ _ _ _ _ ps _ hRw hN).mono ?_; rintro e w1 ⟨rfl, hb1⟩; rw [hl]) | (go_at_call 70; refine (l01In_any _ _ _ _).mono ?_; rintro e w' ⟨rfl, rfl⟩))
        replace hacc := hacc.below hb1
        have hwz := hb1.size
        replace hrows := (hrows.below hb1).mono (Nat.le_refl _) hwz
        replace hB := hB.trans (hb1.mono hB.size)
        replace q0 := keepcell q0 hb1
        replace q1 := keepcell q1 hb1
        replace q2 := keepcell q2 hb1
        replace g2 := keepcell g2 hb1
        replace g3 := keepcell g3 hb1
        replace hz := Nat.le_trans hz hwz
        clear hb1 hwz hRw g0 g1 g4
        generalize w1 = wr at hacc hrows hB q0 q1 q2 g2 g3 hz ⊢
        have hbz : b < wr.heap.size := Nat.lt_of_lt_of_le hbW hB.size
        have hwr1 : IntKind.i64.wrap (pW * s) = pW * s := by rw [IntKind.wrap_i64]; omega
        have hwr2 : IntKind.i64.wrap (pH * s) = pH * s := by rw [IntKind.wrap_i64]; omega
        have hnew := Acc.two wr wr.heap.size 3 (cutSize (pW * s)) (cutSize (pH * s)) (Nat.le_refl _) rfl
        obtain ⟨A', c', ev, hc', hO⟩ := hnew.own intC_len
        injection ev with ev1 ev2 ev3
        subst ev1 ev3
        have hrows2 := (hrows.below ((Below.refl _ _).alloc (Nat.le_refl _) (.cells #[.int .i64 (cutSize (pW * s)), .int .i64 (cutSize (pH * s))] 3))).push (x := ⟨some ⟨wr.heap.size, 0, none⟩, 2, 2⟩) (r := [cutSize (pW * s), cutSize (pH * s)]) (Nat.le_refl _) hO hz (by simp)
        rw [← HM2.out, ← HM.out] at hrows2
        have hap2 : Apart _ (hs ++ [⟨some ⟨wr.heap.size, 0, none⟩, 2, 2⟩]) := hap.push (x := ⟨some ⟨wr.heap.size, 0, none⟩, 2, 2⟩) (by exact hO) (fun g hg => (hacc.row hg).2)
        have hrows3 := hrows2.below (((Below.refl _ _).alloc (Nat.le_refl _) (.cells #[.slice (some ⟨wr.heap.size, 0, none⟩) 2 2] 42)).drew)
        have hown1 : Acc ((((wr.alloc (.cells #[.int .i64 (cutSize (pW * s)), .int .i64 (cutSize (pH * s))] 3)).alloc (.cells #[.slice (some ⟨wr.heap.size, 0, none⟩) 2 2] 42))).drew) (jb + 1) 42 1 _ hs hdC := ((hacc.alloc (.cells #[.int .i64 (cutSize (pW * s)), .int .i64 (cutSize (pH * s))] 3)).alloc (.cells #[.slice (some ⟨wr.heap.size, 0, none⟩) 2 2] 42)).drew
        have hB4 : Below W.heap.size W ((((wr.alloc (.cells #[.int .i64 (cutSize (pW * s)), .int .i64 (cutSize (pH * s))] 3)).alloc (.cells #[.slice (some ⟨wr.heap.size, 0, none⟩) 2 2] 42))).drew) := ((hB.alloc hB.size _).alloc (by have := hB.size; simp; omega) _).drew
        have hlo1 : jb + 1 ≤ ((((wr.alloc (.cells #[.int .i64 (cutSize (pW * s)), .int .i64 (cutSize (pH * s))] 3)).alloc (.cells #[.slice (some ⟨wr.heap.size, 0, none⟩) 2 2] 42))).drew).heap.size := by simp [World.drew]; omega
        have hln1 : hs.length + 1 ≤ 4294967296 := by omega
        have hbx : ((((wr.alloc (.cells #[.int .i64 (cutSize (pW * s)), .int .i64 (cutSize (pH * s))] 3)).alloc (.cells #[.slice (some ⟨wr.heap.size, 0, none⟩) 2 2] 42))).drew).heap[wr.heap.size + 1]? = some (.cells #[.slice (some ⟨wr.heap.size, 0, none⟩) 2 2] 42 (0, 0)) := by
          have := heap_alloc_new (wr.alloc (.cells #[.int .i64 (cutSize (pW * s)), .int .i64 (cutSize (pH * s))] 3)) (.cells #[.slice (some ⟨wr.heap.size, 0, none⟩) 2 2] 42)
          simpa [World.drew] using this
        have hkb := (((Below.refl wr.heap.size wr).alloc (Nat.le_refl _) (.cells #[.int .i64 (cutSize (pW * s)), .int .i64 (cutSize (pH * s))] 3)).alloc (by simp) (.cells #[.slice (some ⟨wr.heap.size, 0, none⟩) 2 2] 42)).drew
        have q0a := keepcell q0 hkb
        have q1a := keepcell q1 hkb
        have q2a := keepcell q2 hkb
        have g2a := keepcell g2 hkb
        have g3a := keepcell g3 hkb
        have hbj : b < jb + 1 := by have := hjb.out; omega
        go_region_held3 (fun v => v.cell? ⟨jb, 2, none⟩ = some (.slice (some ⟨b, off, none⟩) n c) ∧ v.cell? ⟨b, off + k * 5 + 2, none⟩ = some (.int .i64 pW) ∧ v.cell? ⟨b, off + k * 5 + 3, none⟩ = some (.int .i64 pH)) (first | exact ⟨near_of hacc hgrow q2a (Nat.lt_succ_self _), near_of hacc hgrow g2a hbj, near_of hacc hgrow g3a hbj⟩ | go_keep)
          (first | (go_at_call 71; refine (cutSizeS_any _ _).mono ?_; rintro e v ⟨rfl, rfl⟩) | (refine step_acc1 rfl _ _ 26 rfl (jb + 1) 42 (.slice none 0 0) 1 24 Try.underlying26 infoInts rfl Nat.one_pos _ hs hdC ⟨some ⟨wr.heap.size, 0, none⟩, 2, 2⟩ rfl hown1 _ _ _ _ hbx rfl rfl rfl (fun u hu => by rw [List.mem_singleton.1 hu]; rfl) hln1 (by decide) hlo1 _ rfl ?_; intro v' w3 hacc3 hgrow hat hkeep))
        go_wp2_with fail
        go_roundw
        case rel =>
          have hr3 := (hrows3.app hgrow hap2).mono (Nat.le_refl _) (show _ ≤ w3.heap.size from Nat.le_trans (by simp [World.drew]) hgrow.size)
          exact ⟨k + 1, _, by omega, by go_num, hacc3, hr3, hap2.next hat (hrows3.app hgrow hap2) (by simp [World.drew]), near_of hacc hgrow q0a (Nat.lt_succ_self _), near_of hacc hgrow q1a (Nat.lt_succ_self _), near_of hacc hgrow q2a (Nat.lt_succ_self _), hown1.grow_below hB4 hgrow (by rw [hjb.out]; omega) (by have := hjb.out; omega), Nat.le_trans hlo1 hgrow.size⟩
        case measure => simp [intOf]; omega
      · obtain rfl : k = n := by omega
        rw [List.take_of_length_le (by rw [List.length_map, HLEN.out]; exact Nat.le_refl _)] at hrows
        go_wp2
        go_ret
        exact (hacc.mono (Nat.le_succ_of_le (Nat.le_of_eq hjb.out.symm))).madeSS (hrows.mono (Nat.le_succ_of_le (Nat.le_of_eq hjb.out.symm)) (Nat.le_refl _)) hap hB (by rw [List.length_map, HLEN.out])

def cloth (w h : Int) (ps : List Patch) (s : Int) : Int := if layoutOk w h ps && within s 1 40 then ((ps.map (cutRow s)).map fun r => r.getD 0 0 * r.getD 1 0).sum else -1

end Go.Proofs.Ytmjdgplkcocgmaa
