/-
  Contracts over layouts: what is cut for each patch, and the cloth.
-/
import Derived.Test.YtmjdgplkcocgmaaLayA
import Derived.Test.YtmjdgplkcocgmaaAccSSG
import Derived.Test.YtmjdgplkcocgmaaAccInt
import Derived.Test.YtmjdgplkcocgmaaFlatInt
import Derived.Test.YtmjdgplkcocgmaaAccFar
set_option linter.unusedVariables false
namespace Go.Proofs.Ytmjdgplkcocgmaa
open Go.RowKit

theorem infoInts : (Try.prog.info? 42).map (fun i => (i.zero, i.size, i.bytes)) = some (some (.slice none 0 0), 1, 24) := by kernel_rfl

def cutRow (s : Int) (p : Patch) : List Int := [cutSize (p.W * s), cutSize (p.H * s)]
def patchCuts (w h : Int) (ps : List Patch) (s : Int) : List (List Int) := if layoutOk w h ps && within s 1 40 then ps.map (cutRow s) else []
theorem cuts_yes {w h s : Int} {ps : List Patch} (h1 : layoutOk w h ps = true) (h2 : within s 1 40 = true) : patchCuts w h ps s = ps.map (cutRow s) := by
  unfold patchCuts
  rw [h1, h2]; rfl
theorem cuts_no1 {w h s : Int} {ps : List Patch} (h1 : layoutOk w h ps = false) : patchCuts w h ps s = [] := by
  unfold patchCuts
  rw [h1]; rfl
theorem cuts_no2 {w h s : Int} {ps : List Patch} (h2 : within s 1 40 = false) : patchCuts w h ps s = [] := by
  unfold patchCuts
  rw [h2, Bool.and_false]; rfl
theorem map_take_succ {α β : Type} {f : α → β} {l : List α} {k : Nat} {x : α} (hx : l[k]? = some x) : (l.map f).take (k + 1) = (l.map f).take k ++ [f x] := by
  rw [List.take_add_one, List.getElem?_map, hx]; rfl
theorem mul_bd40 {a s : Int} (h1 : 1 ≤ a) (h2 : a ≤ 12) (h3 : 1 ≤ s) (h4 : s ≤ 40) : 1 ≤ a * s ∧ a * s ≤ 480 := by
  have h5 : 1 * 1 ≤ a * s := Int.mul_le_mul h1 h3 (by decide) (by omega)
  have h6 : a * s ≤ 12 * 40 := Int.mul_le_mul h2 h4 (by omega) (by decide)
  omega
theorem cut_small {x : Int} (h1 : 1 ≤ x) (h2 : x ≤ 1000) : cutSize x = x + 4 := by
  unfold cutSize
  rw [if_pos (within_iff.2 ⟨h1, h2⟩)]

theorem Acc.two (w : World) (lo : Nat) (e : TypeId) (x y : Int) (h : lo ≤ w.heap.size) {g : Nat} (hg : g = w.heap.size) : Acc (w.alloc (.cells #[.int .i64 x, .int .i64 y] e)) lo e 1 (.slice (some ⟨g, 0, none⟩) 2 2) [x, y] intC := by
  subst hg
  have := World.ownsRow_lit (base := lo) (e := e) (size := 1) w #[.int .i64 x, .int .i64 y] 2 h (by unfold maxLen; omega) (by simp)
  simpa [Acc, intC] using this

theorem cutSizeI_q (f : Int) (w : World) : Calls Try.prog 28 #[.int .i64 f] w fun e w' => e = .returned (.int .i64 (cutSize f)) ∧ w' = w := (cutSizeI_any f w).mono fun _ _ h => ⟨h.1, h.2.symm⟩

theorem cutSizeS_q (f : Int) (w : World) : Calls Try.prog 71 #[.int .i64 f] w fun e w' => e = .returned (.int .i64 (cutSize f)) ∧ w' = w := (cutSizeS_any f w).mono fun _ _ h => ⟨h.1, h.2.symm⟩

set_option maxRecDepth 100000 in
set_option maxHeartbeats 2000000 in
theorem cutsI_any (w h : Int) (A : Option Addr) (n c : Nat) (ps : List Patch) (s : Int) (W : World) (hR : Rd W A n 5 ps patchC) (hN : n ≤ 1048576) :
    Calls Try.prog 18 #[.agg #[.int .i64 w, .int .i64 h, .slice A n c], .int .i64 s] W (MadeSS W (patchCuts w h ps s).length (patchCuts w h ps s) intC) := by
  have HLEN := Lib.hid hR.len
  have hRa : Rd (W.alloc (.cells #[.int .i64 w, .int .i64 h, .slice A n c] 30)) A n 5 ps patchC := hR.below ((Below.refl _ _).alloc (Nat.le_refl _) _)
  rcases hl : layoutOk w h ps with _ | _
  · rw [cuts_no1 hl]
    go_enter Try.func18, Try.ntmps18
    go_wp2_with (go_at_call 73; refine (layoutI_any _ _ _ _ _ ps _ hRa hN).mono ?_; rintro e w1 ⟨rfl, hb1⟩; rw [hl])
    go_ret
    exact (Acc.nil w1 W.heap.size 42 1 hdC).madeSS (RowsP.nil _ _ _ _) (Apart.nil _) (by (repeat (first | exact Below.refl _ _ | assumption | (refine Below.drew ?_) | (refine below_drewN ?_ _) | (refine Below.alloc ?_ (by first | exact Nat.le_refl _ | (simp; done) | (simp; omega) | omega) _) | (refine Below.setCell ?_ (by first | exact Nat.le_refl _ | (simp; done) | (simp; omega) | omega) _) | (refine Below.trans ?_ (Below.mono (by assumption) (by first | exact Nat.le_refl _ | (simp; done) | (simp; omega) | omega)))))) rfl
  rcases hs : within s 1 40 with _ | _
  · rw [cuts_no2 hs]
    go_enter Try.func18, Try.ntmps18
    go_wp2_with (first | (go_at_call 73; refine (layoutI_any _ _ _ _ _ ps _ hRa hN).mono ?_; rintro e w1 ⟨rfl, hb1⟩; rw [hl]) | (go_at_call 74; refine (within_any _ _ _ _).mono ?_; rintro e w' ⟨rfl, rfl⟩))
    go_ret
    exact (Acc.nil w1 W.heap.size 42 1 hdC).madeSS (RowsP.nil _ _ _ _) (Apart.nil _) (by (repeat (first | exact Below.refl _ _ | assumption | (refine Below.drew ?_) | (refine below_drewN ?_ _) | (refine Below.alloc ?_ (by first | exact Nat.le_refl _ | (simp; done) | (simp; omega) | omega) _) | (refine Below.setCell ?_ (by first | exact Nat.le_refl _ | (simp; done) | (simp; omega) | omega) _) | (refine Below.trans ?_ (Below.mono (by assumption) (by first | exact Nat.le_refl _ | (simp; done) | (simp; omega) | omega)))))) rfl
  · rw [cuts_yes hl hs, List.length_map, HLEN.out]
    obtain ⟨hw, hh, hn12, hall, _, _⟩ := layout_parts hl
    rw [HLEN.out] at hn12
    have HALL := Lib.hid hall
    have hsb := within_iff.1 hs
    have hwb : w ≤ 12 := hw.2
    have hhb : h ≤ 12 := hh.2
    clear hall hw hh
    obtain ⟨jb, hjb⟩ : ∃ j, Hid (j = W.heap.size) := ⟨_, rfl⟩
    have e2 : (W.alloc (.cells #[.int .i64 w, .int .i64 h, .slice A n c] 30)).cell? ⟨jb, 2, none⟩ = some (.slice A n c) := by rw [hjb.out, cell_of_row _ _ _ _ _ _ (heap_alloc_new W _)]; rfl
    go_enter Try.func18, Try.ntmps18
    go_wp2_with fail
    rw [← hjb.out]
    refine (layoutI_any _ _ _ _ _ ps _ hRa hN).mono ?_
    rintro e w1 ⟨rfl, hb1⟩
    rw [hl]
    have e2r := keepcell e2 hb1
    have hz1 := hb1.size
    simp at hz1
    have hj1 : jb < w1.heap.size := by have := hjb.out; omega
    have hB1 : Below W.heap.size W w1 := by (repeat (first | exact Below.refl _ _ | assumption | (refine Below.drew ?_) | (refine below_drewN ?_ _) | (refine Below.alloc ?_ (by first | exact Nat.le_refl _ | (simp; done) | (simp; omega) | omega) _) | (refine Below.setCell ?_ (by first | exact Nat.le_refl _ | (simp; done) | (simp; omega) | omega) _) | (refine Below.trans ?_ (Below.mono (by assumption) (by first | exact Nat.le_refl _ | (simp; done) | (simp; omega) | omega)))))
    have hacc0 := Acc.lit0 w1 W.heap.size 42 1 hdC (by omega) rfl
    go_wp2_with (go_at_call 74; refine (within_any _ _ _ _).mono ?_; rintro e w' ⟨rfl, rfl⟩)
    go_loopw [5, 20] (fun o i wr => ∃ (k : Nat) (hs : List Hd), k ≤ n ∧ i = .int .i64 (k : Int) ∧ Acc wr W.heap.size 42 1 o hs hdC ∧ RowsP wr W.heap.size wr.heap.size hs ((ps.map (cutRow s)).take k) intC ∧ Apart o hs ∧ Below W.heap.size W wr ∧ W.heap.size ≤ wr.heap.size) (fun _ i _ => n - (intOf i).toNat)
    case atStart => exact ⟨0, [], Nat.zero_le _, rfl, hacc0, RowsP.nil _ _ _ _, Apart.nil _, by (repeat (first | exact Below.refl _ _ | assumption | (refine Below.drew ?_) | (refine below_drewN ?_ _) | (refine Below.alloc ?_ (by first | exact Nat.le_refl _ | (simp; done) | (simp; omega) | omega) _) | (refine Below.setCell ?_ (by first | exact Nat.le_refl _ | (simp; done) | (simp; omega) | omega) _) | (refine Below.trans ?_ (Below.mono (by assumption) (by first | exact Nat.le_refl _ | (simp; done) | (simp; omega) | omega))))), by simp; omega⟩
    case round =>
      clear hacc0 hB1 hb1 hz1 e2 e2r hj1
      obtain ⟨k, hs, hk, rfl, hacc, hrows, hap, hB, hz⟩ := hrel
      by_cases hlt : k < n
      · obtain ⟨b, off, x, rfl, hbW, hx, g0, g1, g2, g3, g4⟩ := hR.patch hlt hB
        have hxb := patchIn_bd (List.all_eq_true.1 HALL.out x (List.mem_of_getElem? hx))
        have HM := Lib.hid (map_take_succ (f := cutRow s) hx)
        have hsl : hs.length = k := by rw [hrows.1, List.length_take, List.length_map, HLEN.out]; omega
        clear hx
        obtain ⟨pX, pY, pW, pH, pC⟩ := x
        simp only at g0 g1 g2 g3 g4 hxb
        have hm1 := mul_bd40 (a := pW) (s := s) (by omega) (by omega) (by omega) (by omega)
        have hm2 := mul_bd40 (a := pH) (s := s) (by omega) (by omega) (by omega) (by omega)
        have HM2 := Lib.hid (show cutRow s ⟨pX, pY, pW, pH, pC⟩ = [cutSize (pW * s), cutSize (pH * s)] from rfl)
        obtain ⟨jp, hjp⟩ : ∃ j, Hid (j = wr.heap.size) := ⟨_, rfl⟩
        have p2 : (wr.alloc (.cells #[.int .i64 pX, .int .i64 pY, .int .i64 pW, .int .i64 pH, .int .i64 pC] 44)).cell? ⟨jp, 2, none⟩ = some (.int .i64 pW) := by rw [hjp.out, cell_of_row _ _ _ _ _ _ (heap_alloc_new wr _)]; rfl
        have p3 : (wr.alloc (.cells #[.int .i64 pX, .int .i64 pY, .int .i64 pW, .int .i64 pH, .int .i64 pC] 44)).cell? ⟨jp, 3, none⟩ = some (.int .i64 pH) := by rw [hjp.out, cell_of_row _ _ _ _ _ _ (heap_alloc_new wr _)]; rfl
        have hb8 : Below wr.heap.size wr (wr.alloc (.cells #[.int .i64 pX, .int .i64 pY, .int .i64 pW, .int .i64 pH, .int .i64 pC] 44)) := (Below.refl _ _).alloc (Nat.le_refl _) _
        have hwz : wr.heap.size ≤ (wr.alloc (.cells #[.int .i64 pX, .int .i64 pY, .int .i64 pW, .int .i64 pH, .int .i64 pC] 44)).heap.size := hb8.size
        go_wp2
        rw [← hjp.out]
        generalize (wr.alloc (.cells #[.int .i64 pX, .int .i64 pY, .int .i64 pW, .int .i64 pH, .int .i64 pC] 44)) = w8 at p2 p3 hb8 hwz ⊢
        have hacc8 := hacc.below hb8
        have hrows8 := hrows.below hb8
        have hB8 : Below W.heap.size W w8 := hB.trans (hb8.mono hz)
        have hz8 : W.heap.size ≤ w8.heap.size := Nat.le_trans hz hwz
        have hwr1 : IntKind.i64.wrap (pW * s) = pW * s := by rw [IntKind.wrap_i64]; omega
        have hwr2 : IntKind.i64.wrap (pH * s) = pH * s := by rw [IntKind.wrap_i64]; omega
        have hnew := Acc.two w8 w8.heap.size 3 (cutSize (pW * s)) (cutSize (pH * s)) (Nat.le_refl _) rfl
        obtain ⟨A', c', ev, hc', hO⟩ := hnew.own intC_len
        injection ev with ev1 ev2 ev3
        subst ev1 ev3
        have hrows2 := ((hrows8.below ((Below.refl _ _).alloc (Nat.le_refl _) (.cells #[.int .i64 (cutSize (pW * s)), .int .i64 (cutSize (pH * s))] 3))).mono (Nat.le_refl _) hwz).push (x := ⟨some ⟨w8.heap.size, 0, none⟩, 2, 2⟩) (r := [cutSize (pW * s), cutSize (pH * s)]) (Nat.le_refl _) hO hz8 (by simp)
        rw [← HM2.out, ← HM.out] at hrows2
        have hap2 : Apart _ (hs ++ [⟨some ⟨w8.heap.size, 0, none⟩, 2, 2⟩]) := hap.push (x := ⟨some ⟨w8.heap.size, 0, none⟩, 2, 2⟩) (by exact hO) (fun g hg => (hacc8.row hg).2)
        have hrows3 := hrows2.below (((Below.refl _ _).alloc (Nat.le_refl _) (.cells #[.slice (some ⟨w8.heap.size, 0, none⟩) 2 2] 42)).drew)
        have hown1 : Acc ((((w8.alloc (.cells #[.int .i64 (cutSize (pW * s)), .int .i64 (cutSize (pH * s))] 3)).alloc (.cells #[.slice (some ⟨w8.heap.size, 0, none⟩) 2 2] 42))).drew) W.heap.size 42 1 _ hs hdC := ((hacc8.alloc (.cells #[.int .i64 (cutSize (pW * s)), .int .i64 (cutSize (pH * s))] 3)).alloc (.cells #[.slice (some ⟨w8.heap.size, 0, none⟩) 2 2] 42)).drew
        have hB4 : Below W.heap.size W ((((w8.alloc (.cells #[.int .i64 (cutSize (pW * s)), .int .i64 (cutSize (pH * s))] 3)).alloc (.cells #[.slice (some ⟨w8.heap.size, 0, none⟩) 2 2] 42))).drew) := ((hB8.alloc hz8 _).alloc (by simp; omega) _).drew
        have hlo1 : W.heap.size ≤ ((((w8.alloc (.cells #[.int .i64 (cutSize (pW * s)), .int .i64 (cutSize (pH * s))] 3)).alloc (.cells #[.slice (some ⟨w8.heap.size, 0, none⟩) 2 2] 42))).drew).heap.size := by simp [World.drew]; omega
        have hln1 : hs.length + 1 ≤ 4294967296 := by omega
        have hbx : ((((w8.alloc (.cells #[.int .i64 (cutSize (pW * s)), .int .i64 (cutSize (pH * s))] 3)).alloc (.cells #[.slice (some ⟨w8.heap.size, 0, none⟩) 2 2] 42))).drew).heap[w8.heap.size + 1]? = some (.cells #[.slice (some ⟨w8.heap.size, 0, none⟩) 2 2] 42 (0, 0)) := by
          have := heap_alloc_new (w8.alloc (.cells #[.int .i64 (cutSize (pW * s)), .int .i64 (cutSize (pH * s))] 3)) (.cells #[.slice (some ⟨w8.heap.size, 0, none⟩) 2 2] 42)
          simpa [World.drew] using this
        have p2a := keepcell p2 ((((Below.refl _ _).alloc (Nat.le_refl _) (.cells #[.int .i64 (cutSize (pW * s)), .int .i64 (cutSize (pH * s))] 3)).alloc (by simp) (.cells #[.slice (some ⟨w8.heap.size, 0, none⟩) 2 2] 42)).drew)
        have p3a := keepcell p3 ((((Below.refl _ _).alloc (Nat.le_refl _) (.cells #[.int .i64 (cutSize (pW * s)), .int .i64 (cutSize (pH * s))] 3)).alloc (by simp) (.cells #[.slice (some ⟨w8.heap.size, 0, none⟩) 2 2] 42)).drew)
        go_region_held3 (fun v => v.cell? ⟨jp, 2, none⟩ = some (.int .i64 pW) ∧ v.cell? ⟨jp, 3, none⟩ = some (.int .i64 pH)) (first | exact ⟨far_of hacc hgrow p2a (Nat.le_of_eq hjp.out.symm), far_of hacc hgrow p3a (Nat.le_of_eq hjp.out.symm)⟩ | exact far_of hacc hgrow p2a (Nat.le_of_eq hjp.out.symm) | exact far_of hacc hgrow p3a (Nat.le_of_eq hjp.out.symm) | go_keep)
          (first | (go_at_call 28; refine (cutSizeI_any _ _).mono ?_; rintro e v ⟨rfl, rfl⟩) | (refine step_acc1 rfl _ _ 26 rfl W.heap.size 42 (.slice none 0 0) 1 24 Try.underlying26 infoInts rfl Nat.one_pos _ hs hdC ⟨some ⟨w8.heap.size, 0, none⟩, 2, 2⟩ rfl hown1 _ _ _ _ hbx rfl rfl rfl (fun u hu => by rw [List.mem_singleton.1 hu]; rfl) hln1 (by decide) hlo1 _ rfl ?_; intro v' w3 hacc3 hgrow hat hkeep))
        go_wp2_with fail
        go_roundw
        case rel =>
          have hr3 := (hrows3.app hgrow hap2).mono (Nat.le_refl _) (show _ ≤ w3.heap.size from Nat.le_trans (by simp [World.drew]) hgrow.size)
          exact ⟨k + 1, _, by omega, by go_num, hacc3, hr3, hap2.next hat (hrows3.app hgrow hap2) (by simp [World.drew]), hown1.grow_below hB4 hgrow (Nat.le_refl _) hlo1, by have := hgrow.size; omega⟩
        case measure => simp [intOf]; omega
      · obtain rfl : k = n := by omega
        rw [List.take_of_length_le (by rw [List.length_map, HLEN.out]; exact Nat.le_refl _)] at hrows
        go_wp2
        go_ret
        exact hacc.madeSS hrows hap hB (by rw [List.length_map, HLEN.out])

end Go.Proofs.Ytmjdgplkcocgmaa
