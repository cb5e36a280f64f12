/-
  Contracts: how a block may be turned.
-/
import Derived.Test.YtkbpehklfjnjjaaBlkC
import Derived.Test.YtkbpehklfjnjjaaScalC
import Derived.Test.YtkbpehklfjnjjaaAccFar
set_option linter.unusedVariables false
namespace Go.Proofs.Ytkbpehklfjnjjaa
open Go.RowKit

def kindAt (ks : List Int) (a : Int) : Int := ks.getD a.toNat 0
def turnOk (ks : List Int) (k a : Int) : Bool := mayTurn (kindAt ks a) k
def maySee (s : Int) (cs : List Cell) (ks : List Int) (k : Int) : Bool := blockOk s cs && printsOk ks && within k 0 3 && (colorsOf s cs).all (turnOk ks k)
def turnsUp (s : Int) (cs : List Cell) (ks : List Int) (k : Nat) : List Int := ((List.range k).filter fun i : Nat => maySee s cs ks (i : Int)).map fun i : Nat => (i : Int)
def turnsOf (s : Int) (cs : List Cell) (ks : List Int) : List Int := turnsUp s cs ks 4
def isStiff (ks : List Int) (a : Int) : Bool := kindAt ks a == 2
def stiffOf (s : Int) (cs : List Cell) (ks : List Int) : List Int := if blockOk s cs && printsOk ks then (colorsOf s cs).filter (isStiff ks) else []
theorem turnsUp_succ (s : Int) (cs : List Cell) (ks : List Int) (k : Nat) : turnsUp s cs ks (k + 1) = turnsUp s cs ks k ++ (if maySee s cs ks (k : Int) then [(k : Int)] else []) := by
  unfold turnsUp
  rw [List.range_succ, List.filter_append, List.map_append]
  congr 1
  by_cases h : maySee s cs ks (k : Int) = true
  · simp [h]
  · simp [h]
theorem turnsUp_len (s : Int) (cs : List Cell) (ks : List Int) (k : Nat) : (turnsUp s cs ks k).length ≤ k := by
  unfold turnsUp
  rw [List.length_map]
  have := List.length_filter_le (fun i : Nat => maySee s cs ks (i : Int)) (List.range k)
  simpa using this
theorem turns_len (s : Int) (cs : List Cell) (ks : List Int) : (turnsOf s cs ks).length ≤ 4 := turnsUp_len s cs ks 4
theorem stiff_len (s : Int) (cs : List Cell) (ks : List Int) : (stiffOf s cs ks).length ≤ 6 := by
  unfold stiffOf
  split
  · exact Nat.le_trans (List.length_filter_le _ _) (colors_len s cs)
  · simp
theorem see_no1 {s k : Int} {cs : List Cell} {ks : List Int} (h : blockOk s cs = false) : false = maySee s cs ks k := by
  unfold maySee
  rw [h]; rfl
theorem see_no2 {s k : Int} {cs : List Cell} {ks : List Int} (h : printsOk ks = false) : false = maySee s cs ks k := by
  unfold maySee
  rw [h, Bool.and_false]; rfl
theorem see_no3 {s k : Int} {cs : List Cell} {ks : List Int} (h : within k 0 3 = false) : false = maySee s cs ks k := by
  unfold maySee
  rw [h, Bool.and_false]; rfl
theorem see_end {s k : Int} {cs : List Cell} {ks : List Int} (h1 : blockOk s cs = true) (h2 : printsOk ks = true) (h3 : within k 0 3 = true) : (colorsOf s cs).all (turnOk ks k) = maySee s cs ks k := by
  unfold maySee
  rw [h1, h2, h3]; rfl
theorem prints_len {ks : List Int} (h : printsOk ks = true) : ks.length = 6 := by
  unfold printsOk at h
  rw [Bool.and_eq_true, decide_eq_true_iff] at h
  exact h.1
theorem filter_take_succ {α : Type} {p : α → Bool} {l : List α} {k : Nat} {x : α} (hx : l[k]? = some x) : (l.take (k + 1)).filter p = (l.take k).filter p ++ (if p x then [x] else []) := by
  rw [List.take_add_one, hx, List.filter_append]
  cases h : p x <;> simp [h]
theorem filter_take_len {α : Type} (p : α → Bool) (l : List α) (k : Nat) : ((l.take k).filter p).length ≤ k := Nat.le_trans (List.length_filter_le _ _) (List.length_take_le _ _)

set_option maxRecDepth 100000 in
set_option maxHeartbeats 1000000 in
theorem seeI_any (s : Int) (A : Option Addr) (n c : Nat) (cs : List Cell) (B : Option Addr) (m d : Nat) (ks : List Int) (k : Int) (W : World) (hR : Rd W A n 3 cs cellC) (hN : n ≤ 1048576) (hK : Rd W B m 1 ks intC) (hM : m ≤ 1048576) :
    Calls Try.prog 13 #[.agg #[.int .i64 s, .slice A n c], .slice B m d, .int .i64 k] W fun e w' => e = .returned (.bool (maySee s cs ks k)) ∧ Below W.heap.size W w' := by
  obtain ⟨jb, hjb⟩ : ∃ j, Hid (j = W.heap.size) := ⟨_, rfl⟩
  have e0 : (W.alloc (.cells #[.int .i64 s, .slice A n c] 30)).cell? ⟨jb, 0, none⟩ = some (.int .i64 s) := by rw [hjb.out, cell_of_row _ _ _ _ _ _ (heap_alloc_new W _)]; rfl
  have e1 : (W.alloc (.cells #[.int .i64 s, .slice A n c] 30)).cell? ⟨jb, 1, none⟩ = some (.slice A n c) := by rw [hjb.out, cell_of_row _ _ _ _ _ _ (heap_alloc_new W _)]; rfl
  have hR1 : Rd (W.alloc (.cells #[.int .i64 s, .slice A n c] 30)) A n 3 cs cellC := hR.below ((Below.refl _ _).alloc (Nat.le_refl _) _)
  have hK1 : Rd (W.alloc (.cells #[.int .i64 s, .slice A n c] 30)) B m 1 ks intC := hK.below ((Below.refl _ _).alloc (Nat.le_refl _) _)
  have hBW : Below W.heap.size W (W.alloc (.cells #[.int .i64 s, .slice A n c] 30)) := (Below.refl _ _).alloc (Nat.le_refl _) _
  have hsW : W.heap.size ≤ (W.alloc (.cells #[.int .i64 s, .slice A n c] 30)).heap.size := by simp
  have hM4 : m ≤ 4194304 := by omega
  rcases hb : blockOk s cs with _ | _
  · have HN := Lib.hid (see_no1 (k := k) (ks := ks) hb)
    go_enter Try.func13, Try.ntmps13
    go_wp2_with (first | (go_at_call 47; refine (blockOkI_any _ _ _ _ cs _ hR1 hN).mono ?_; rintro e w1 ⟨rfl, hb1⟩; rw [hb]; have hz1 := hb1.size) | (go_at_call 30; refine (printsOkI_any _ _ _ ks _ (hK1.below hb1) hM4).mono ?_; rintro e w2 ⟨rfl, hb2⟩; rw [hp]; have hz2 := hb2.size) | (go_at_call 48; refine (within_any _ _ _ _).mono ?_; rintro e w' ⟨rfl, rfl⟩))
    go_ret
    exact ⟨ret_b HN.out, by (repeat (first | exact Below.refl _ _ | assumption | (refine Below.drew ?_) | (refine below_drewN ?_ _) | (refine Below.alloc ?_ (by first | exact Nat.le_refl _ | (simp; done) | (simp; omega) | omega) _) | (refine Below.setCell ?_ (by first | exact Nat.le_refl _ | (simp; done) | (simp; omega) | omega) _) | (refine Below.trans ?_ (Below.mono (by assumption) (by first | exact Nat.le_refl _ | (simp; done) | (simp; omega) | omega)))))⟩
  rcases hp : printsOk ks with _ | _
  · have HN := Lib.hid (see_no2 (s := s) (cs := cs) (k := k) hp)
    go_enter Try.func13, Try.ntmps13
    go_wp2_with (first | (go_at_call 47; refine (blockOkI_any _ _ _ _ cs _ hR1 hN).mono ?_; rintro e w1 ⟨rfl, hb1⟩; rw [hb]; have hz1 := hb1.size) | (go_at_call 30; refine (printsOkI_any _ _ _ ks _ (hK1.below hb1) hM4).mono ?_; rintro e w2 ⟨rfl, hb2⟩; rw [hp]; have hz2 := hb2.size) | (go_at_call 48; refine (within_any _ _ _ _).mono ?_; rintro e w' ⟨rfl, rfl⟩))
    go_ret
    exact ⟨ret_b HN.out, by (repeat (first | exact Below.refl _ _ | assumption | (refine Below.drew ?_) | (refine below_drewN ?_ _) | (refine Below.alloc ?_ (by first | exact Nat.le_refl _ | (simp; done) | (simp; omega) | omega) _) | (refine Below.setCell ?_ (by first | exact Nat.le_refl _ | (simp; done) | (simp; omega) | omega) _) | (refine Below.trans ?_ (Below.mono (by assumption) (by first | exact Nat.le_refl _ | (simp; done) | (simp; omega) | omega)))))⟩
  rcases hw : within k 0 3 with _ | _
  · have HN := Lib.hid (see_no3 (s := s) (cs := cs) (ks := ks) hw)
    go_enter Try.func13, Try.ntmps13
    go_wp2_with (first | (go_at_call 47; refine (blockOkI_any _ _ _ _ cs _ hR1 hN).mono ?_; rintro e w1 ⟨rfl, hb1⟩; rw [hb]; have hz1 := hb1.size) | (go_at_call 30; refine (printsOkI_any _ _ _ ks _ (hK1.below hb1) hM4).mono ?_; rintro e w2 ⟨rfl, hb2⟩; rw [hp]; have hz2 := hb2.size) | (go_at_call 48; refine (within_any _ _ _ _).mono ?_; rintro e w' ⟨rfl, rfl⟩))
    go_ret
    exact ⟨ret_b HN.out, by (repeat (first | exact Below.refl _ _ | assumption | (refine Below.drew ?_) | (refine below_drewN ?_ _) | (refine Below.alloc ?_ (by first | exact Nat.le_refl _ | (simp; done) | (simp; omega) | omega) _) | (refine Below.setCell ?_ (by first | exact Nat.le_refl _ | (simp; done) | (simp; omega) | omega) _) | (refine Below.trans ?_ (Below.mono (by assumption) (by first | exact Nat.le_refl _ | (simp; done) | (simp; omega) | omega)))))⟩
  · have HE := Lib.hid (see_end hb hp hw)
    have HM6 := Lib.hid (show m = 6 by have := prints_len hp; rw [hK.len] at this; exact this)
    have HP := Lib.hid hp
    have hcl := colors_len s cs
    go_enter Try.func13, Try.ntmps13
    go_wp2_with fail
    rw [← hjb.out]
    refine (blockOkI_any _ _ _ _ cs _ hR1 hN).mono ?_
    rintro e w1 ⟨rfl, hb1⟩
    rw [hb]
    have hz1 := hb1.size
    go_wp2_with fail
    refine (printsOkI_any _ _ _ ks _ (hK1.below hb1) hM4).mono ?_
    rintro e w2 ⟨rfl, hb2⟩
    rw [hp]
    have hz2 := hb2.size
    have e0r := keepcell (keepcell e0 hb1) hb2
    have e1r := keepcell (keepcell e1 hb1) hb2
    go_wp2_with (go_at_call 48; refine (within_any _ _ _ _).mono ?_; rintro e w' ⟨rfl, rfl⟩)
    refine (colorsI_any _ _ _ _ cs _ ((hR1.below hb1).below hb2) hN).mono ?_
    rintro e w3 ⟨A3, c3, rfl, hk3, hO3, hb3⟩
    have hz3 := hb3.size
    have hC4 := hO3.rd
    have hK4 := ((hK1.below hb1).below hb2).below hb3
    have hBW3 : Below W.heap.size W w3 := ((hBW.trans (hb1.mono hsW)).trans (hb2.mono (by omega))).trans (hb3.mono (by omega))
    have hsW3 : W.heap.size ≤ w3.heap.size := hBW3.size
    obtain ⟨cols, hcols⟩ : ∃ l, Hid (l = colorsOf s cs) := ⟨_, rfl⟩
    have hCB : ∀ a ∈ cols, 0 ≤ a ∧ a ≤ 5 := fun a ha => by rw [hcols.out] at ha; exact colors_bd ha
    rw [← hcols.out] at hC4 HE hcl ⊢
    clear hO3 hk3 e0 e1 e0r e1r hb1 hb2 hb3 hR1 hK1 hBW hsW hb hp hw hz1 hz2 hz3
    go_wp2_with fail
    go_loopw [25] (fun i wr => ∃ j : Nat, j ≤ cols.length ∧ i = .int .i64 (j : Int) ∧ Hid ((cols.take j).all (turnOk ks k) = true) ∧ Below w3.heap.size w3 wr) (fun i _ => cols.length - (intOf i).toNat)
    case atStart => exact ⟨0, Nat.zero_le _, rfl, by simp [Hid], Below.refl _ _⟩
    case round =>
      obtain ⟨j, hj, rfl, hall, hB⟩ := hrel
      have hz := hB.size
      by_cases hlt : j < cols.length
      · -- one color
        obtain ⟨b, off, x, rfl, hbW, hx, g0⟩ := hC4.int hlt hB
        have hxb := hCB _ (List.mem_of_getElem? hx)
        obtain ⟨p, rfl⟩ := Int.eq_ofNat_of_zero_le hxb.1
        have hp6 : p < m := by have := HM6.out; omega
        obtain ⟨b2, off2, y, rfl, hbW2, hy, k0⟩ := hK4.int hp6 hB
        have HKA := Lib.hid (show kindAt ks (p : Int) = y by unfold kindAt; rw [Int.toNat_natCast, List.getD_eq_getElem?_getD, hy]; rfl)
        have HX := Lib.hid hx
        clear hx hy
        have hpm : (p : Int) < (m : Int) := by omega
        rcases ht : mayTurn y k with _ | _
        · have HN := Lib.hid (show false = maySee s cs ks k by rw [← HE.out, all_no HX.out (show turnOk ks k (p : Int) = false by unfold turnOk; rw [HKA.out]; exact ht)])
          go_wp2_with (go_at_call 27; refine (mayTurnI_any _ _ _).mono ?_; rintro e w5 ⟨rfl, hb5⟩; rw [ht])
          go_ret
          exact ⟨ret_b HN.out, hBW3.trans ((hB.trans (hb5.mono hz)).mono hsW3)⟩
        · have HT := Lib.hid (show turnOk ks k (p : Int) = true by unfold turnOk; rw [HKA.out]; exact ht)
          go_wp2_with (go_at_call 27; refine (mayTurnI_any _ _ _).mono ?_; rintro e w5 ⟨rfl, hb5⟩; rw [ht])
          go_roundw
          case rel => exact ⟨j + 1, by omega, by go_num, all_take_succ HX.out hall.out HT.out, hB.trans (hb5.mono hz)⟩
          case measure => simp [intOf]; omega
      · obtain rfl : j = cols.length := by omega
        have HN := Lib.hid (show true = maySee s cs ks k by rw [← HE.out]; have := hall.out; rw [List.take_length] at this; exact this.symm)
        go_wp2
        go_ret
        exact ⟨ret_b HN.out, hBW3.trans (hB.mono hsW3)⟩

set_option maxRecDepth 100000 in
set_option maxHeartbeats 1000000 in
theorem turnsI_any (s : Int) (A : Option Addr) (n c : Nat) (cs : List Cell) (B : Option Addr) (m d : Nat) (ks : List Int) (W : World) (hR : Rd W A n 3 cs cellC) (hN : n ≤ 1048576) (hK : Rd W B m 1 ks intC) (hM : m ≤ 1048576) :
    Calls Try.prog 22 #[.agg #[.int .i64 s, .slice A n c], .slice B m d] W (Made W (turnsOf s cs ks).length 1 (turnsOf s cs ks) intC) := by
  obtain ⟨jb, hjb⟩ : ∃ j, Hid (j = W.heap.size) := ⟨_, rfl⟩
  have e0 : (W.alloc (.cells #[.int .i64 s, .slice A n c] 30)).cell? ⟨jb, 0, none⟩ = some (.int .i64 s) := by rw [hjb.out, cell_of_row _ _ _ _ _ _ (heap_alloc_new W _)]; rfl
  have e1 : (W.alloc (.cells #[.int .i64 s, .slice A n c] 30)).cell? ⟨jb, 1, none⟩ = some (.slice A n c) := by rw [hjb.out, cell_of_row _ _ _ _ _ _ (heap_alloc_new W _)]; rfl
  have hR1 : Rd (W.alloc (.cells #[.int .i64 s, .slice A n c] 30)) A n 3 cs cellC := hR.below ((Below.refl _ _).alloc (Nat.le_refl _) _)
  have hK1 : Rd (W.alloc (.cells #[.int .i64 s, .slice A n c] 30)) B m 1 ks intC := hK.below ((Below.refl _ _).alloc (Nat.le_refl _) _)
  have hBW : Below W.heap.size W (W.alloc (.cells #[.int .i64 s, .slice A n c] 30)) := (Below.refl _ _).alloc (Nat.le_refl _) _
  have hsW : W.heap.size ≤ (W.alloc (.cells #[.int .i64 s, .slice A n c] 30)).heap.size := by simp
  have hM4 : m ≤ 4194304 := by omega
  unfold turnsOf
  have hsz1 : (W.alloc (.cells #[.int .i64 s, .slice A n c] 30)).heap.size = jb + 1 := by rw [hjb.out]; simp
  have hacc0 := Acc.lit0 (W.alloc (.cells #[.int .i64 s, .slice A n c] 30)) (jb + 1) 3 1 intC (Nat.le_of_eq hsz1.symm) rfl
  have e0a := keepcell e0 ((Below.refl _ _).alloc (Nat.le_refl _) (.cells #[] 3))
  have e1a := keepcell e1 ((Below.refl _ _).alloc (Nat.le_refl _) (.cells #[] 3))
  have hBa : Below W.heap.size W ((W.alloc (.cells #[.int .i64 s, .slice A n c] 30)).alloc (.cells #[] 3)) := by (repeat (first | exact Below.refl _ _ | assumption | (refine Below.drew ?_) | (refine below_drewN ?_ _) | (refine Below.alloc ?_ (by first | exact Nat.le_refl _ | (simp; done) | (simp; omega) | omega) _) | (refine Below.setCell ?_ (by first | exact Nat.le_refl _ | (simp; done) | (simp; omega) | omega) _) | (refine Below.trans ?_ (Below.mono (by assumption) (by first | exact Nat.le_refl _ | (simp; done) | (simp; omega) | omega)))))
  have hja : jb + 1 ≤ ((W.alloc (.cells #[.int .i64 s, .slice A n c] 30)).alloc (.cells #[] 3)).heap.size := by rw [hjb.out]; simp
  rw [hsz1] at hacc0
  go_enter Try.func22, Try.ntmps22
  go_wp2
  rw [← hjb.out]
  go_loopw [5, 8] (fun o i wr => ∃ k : Nat, k ≤ 4 ∧ i = .int .i64 (k : Int) ∧ Acc wr (jb + 1) 3 1 o (turnsUp s cs ks k) intC ∧ wr.cell? ⟨jb, 0, none⟩ = some (.int .i64 s) ∧ wr.cell? ⟨jb, 1, none⟩ = some (.slice A n c) ∧ Below W.heap.size W wr ∧ jb + 1 ≤ wr.heap.size) (fun _ i _ => 4 - (intOf i).toNat)
  case atStart => exact ⟨0, by omega, rfl, hacc0, e0a, e1a, hBa, hja⟩
  case round =>
    clear hacc0 e0a e1a hBa hja e0 e1 hR1 hK1 hBW hsW hsz1
    obtain ⟨k, hk, rfl, hacc, q0, q1, hB, hz⟩ := hrel
    by_cases hlt : k < 4
    · have HS := Lib.hid (turnsUp_succ s cs ks k)
      have hcl := turnsUp_len s cs ks k
      have hjW : W.heap.size ≤ wr.heap.size := hB.size
      rcases hs : maySee s cs ks (k : Int) with _ | _
      · have HE := Lib.hid (show turnsUp s cs ks (k + 1) = turnsUp s cs ks k by rw [HS.out, hs]; simp)
        go_wp2_with (go_at_call 13; refine (seeI_any _ _ _ _ cs _ _ _ ks _ _ (hR.below hB) hN (hK.below hB) hM).mono ?_; rintro e w3 ⟨rfl, hb3⟩; rw [hs])
        have hz3 := hb3.size
        go_roundw
        case rel => exact ⟨k + 1, by omega, by go_num, by rw [HE.out]; exact hacc.below hb3, keepcell q0 hb3, keepcell q1 hb3, hB.trans (hb3.mono hjW), by omega⟩
        case measure => simp [intOf]; omega
      · have HE := Lib.hid (show turnsUp s cs ks (k + 1) = turnsUp s cs ks k ++ [(k : Int)] by rw [HS.out, hs]; rfl)
        go_wp2_with (first | (go_at_call 13; refine (seeI_any _ _ _ _ cs _ _ _ ks _ _ (hR.below hB) hN (hK.below hB) hM).mono ?_; rintro e w3 ⟨rfl, hb3⟩; rw [hs]; have hacc3 := hacc.below hb3; have hz3 := hb3.size; have hz4 : jb + 1 ≤ w3.heap.size := (by omega)) | (at_builtin; refine wpList_acc1 rfl _ _ 25 rfl (jb + 1) 3 (.int .i64 0) 1 8 Try.underlying25 infoIntA rfl (by omega) _ _ intC (k : Int) rfl hacc3 _ _ rfl _ rfl (by simp) rfl (by simp [intC, Value.oneCell']) (by omega) (by omega) hz4 ?_; intro v' w5 hacc5 hgrow5 hat5))
        go_roundw
        case rel => exact ⟨k + 1, by omega, by go_num, by rw [HE.out]; exact hacc5, near_of hacc3 hgrow5 (keepcell q0 hb3) (Nat.lt_succ_self _), near_of hacc3 hgrow5 (keepcell q1 hb3) (Nat.lt_succ_self _), hacc3.grow_below (hB.trans (hb3.mono hjW)) hgrow5 (by rw [hjb.out]; omega) (by omega), by have := hgrow5.size; omega⟩
        case measure => simp [intOf]; omega
    · obtain rfl : k = 4 := by omega
      go_wp2
      go_ret
      exact hacc.made intC_len (W := W) (by rw [hjb.out]; omega) hB rfl

set_option maxRecDepth 100000 in
set_option maxHeartbeats 1000000 in
theorem seeS_any (s : Int) (A : Option Addr) (n c : Nat) (cs : List Cell) (B : Option Addr) (m d : Nat) (ks : List Int) (k : Int) (W : World) (hR : Rd W A n 3 cs cellC) (hN : n ≤ 1048576) (hK : Rd W B m 1 ks intC) (hM : m ≤ 1048576) :
    Calls Try.prog 10 #[.agg #[.int .i64 s, .slice A n c], .slice B m d, .int .i64 k] W fun e w' => e = .returned (.bool (maySee s cs ks k)) ∧ Below W.heap.size W w' := by
  obtain ⟨jb, hjb⟩ : ∃ j, Hid (j = W.heap.size) := ⟨_, rfl⟩
  have e0 : (W.alloc (.cells #[.int .i64 s, .slice A n c] 30)).cell? ⟨jb, 0, none⟩ = some (.int .i64 s) := by rw [hjb.out, cell_of_row _ _ _ _ _ _ (heap_alloc_new W _)]; rfl
  have e1 : (W.alloc (.cells #[.int .i64 s, .slice A n c] 30)).cell? ⟨jb, 1, none⟩ = some (.slice A n c) := by rw [hjb.out, cell_of_row _ _ _ _ _ _ (heap_alloc_new W _)]; rfl
  have hR1 : Rd (W.alloc (.cells #[.int .i64 s, .slice A n c] 30)) A n 3 cs cellC := hR.below ((Below.refl _ _).alloc (Nat.le_refl _) _)
  have hK1 : Rd (W.alloc (.cells #[.int .i64 s, .slice A n c] 30)) B m 1 ks intC := hK.below ((Below.refl _ _).alloc (Nat.le_refl _) _)
  have hBW : Below W.heap.size W (W.alloc (.cells #[.int .i64 s, .slice A n c] 30)) := (Below.refl _ _).alloc (Nat.le_refl _) _
  have hsW : W.heap.size ≤ (W.alloc (.cells #[.int .i64 s, .slice A n c] 30)).heap.size := by simp
  have hM4 : m ≤ 4194304 := by omega
  rcases hb : blockOk s cs with _ | _
  · have HN := Lib.hid (see_no1 (k := k) (ks := ks) hb)
    go_enter Try.func10, Try.ntmps10
    go_wp2_with (first | (go_at_call 25; refine (blockOkS_any _ _ _ _ cs _ hR1 hN).mono ?_; rintro e w1 ⟨rfl, hb1⟩; rw [hb]; have hz1 := hb1.size) | (go_at_call 26; refine (printsOkS_any _ _ _ ks _ (hK1.below hb1) hM4).mono ?_; rintro e w2 ⟨rfl, hb2⟩; rw [hp]; have hz2 := hb2.size) | (go_at_call 44; refine (l01In_any _ _ _ _).mono ?_; rintro e w' ⟨rfl, rfl⟩))
    go_ret
    exact ⟨ret_b HN.out, by (repeat (first | exact Below.refl _ _ | assumption | (refine Below.drew ?_) | (refine below_drewN ?_ _) | (refine Below.alloc ?_ (by first | exact Nat.le_refl _ | (simp; done) | (simp; omega) | omega) _) | (refine Below.setCell ?_ (by first | exact Nat.le_refl _ | (simp; done) | (simp; omega) | omega) _) | (refine Below.trans ?_ (Below.mono (by assumption) (by first | exact Nat.le_refl _ | (simp; done) | (simp; omega) | omega)))))⟩
  rcases hp : printsOk ks with _ | _
  · have HN := Lib.hid (see_no2 (s := s) (cs := cs) (k := k) hp)
    go_enter Try.func10, Try.ntmps10
    go_wp2_with (first | (go_at_call 25; refine (blockOkS_any _ _ _ _ cs _ hR1 hN).mono ?_; rintro e w1 ⟨rfl, hb1⟩; rw [hb]; have hz1 := hb1.size) | (go_at_call 26; refine (printsOkS_any _ _ _ ks _ (hK1.below hb1) hM4).mono ?_; rintro e w2 ⟨rfl, hb2⟩; rw [hp]; have hz2 := hb2.size) | (go_at_call 44; refine (l01In_any _ _ _ _).mono ?_; rintro e w' ⟨rfl, rfl⟩))
    go_ret
    exact ⟨ret_b HN.out, by (repeat (first | exact Below.refl _ _ | assumption | (refine Below.drew ?_) | (refine below_drewN ?_ _) | (refine Below.alloc ?_ (by first | exact Nat.le_refl _ | (simp; done) | (simp; omega) | omega) _) | (refine Below.setCell ?_ (by first | exact Nat.le_refl _ | (simp; done) | (simp; omega) | omega) _) | (refine Below.trans ?_ (Below.mono (by assumption) (by first | exact Nat.le_refl _ | (simp; done) | (simp; omega) | omega)))))⟩
  rcases hw : within k 0 3 with _ | _
  · have HN := Lib.hid (see_no3 (s := s) (cs := cs) (ks := ks) hw)
    go_enter Try.func10, Try.ntmps10
    go_wp2_with (first | (go_at_call 25; refine (blockOkS_any _ _ _ _ cs _ hR1 hN).mono ?_; rintro e w1 ⟨rfl, hb1⟩; rw [hb]; have hz1 := hb1.size) | (go_at_call 26; refine (printsOkS_any _ _ _ ks _ (hK1.below hb1) hM4).mono ?_; rintro e w2 ⟨rfl, hb2⟩; rw [hp]; have hz2 := hb2.size) | (go_at_call 44; refine (l01In_any _ _ _ _).mono ?_; rintro e w' ⟨rfl, rfl⟩))
    go_ret
    exact ⟨ret_b HN.out, by (repeat (first | exact Below.refl _ _ | assumption | (refine Below.drew ?_) | (refine below_drewN ?_ _) | (refine Below.alloc ?_ (by first | exact Nat.le_refl _ | (simp; done) | (simp; omega) | omega) _) | (refine Below.setCell ?_ (by first | exact Nat.le_refl _ | (simp; done) | (simp; omega) | omega) _) | (refine Below.trans ?_ (Below.mono (by assumption) (by first | exact Nat.le_refl _ | (simp; done) | (simp; omega) | omega)))))⟩
  · have HE := Lib.hid (see_end hb hp hw)
    have HM6 := Lib.hid (show m = 6 by have := prints_len hp; rw [hK.len] at this; exact this)
    have HP := Lib.hid hp
    have hcl := colors_len s cs
    go_enter Try.func10, Try.ntmps10
    go_wp2_with fail
    rw [← hjb.out]
    refine (blockOkS_any _ _ _ _ cs _ hR1 hN).mono ?_
    rintro e w1 ⟨rfl, hb1⟩
    rw [hb]
    have hz1 := hb1.size
    go_wp2_with fail
    refine (printsOkS_any _ _ _ ks _ (hK1.below hb1) hM4).mono ?_
    rintro e w2 ⟨rfl, hb2⟩
    rw [hp]
    have hz2 := hb2.size
    have e0r := keepcell (keepcell e0 hb1) hb2
    have e1r := keepcell (keepcell e1 hb1) hb2
    go_wp2_with (go_at_call 44; refine (l01In_any _ _ _ _).mono ?_; rintro e w' ⟨rfl, rfl⟩)
    refine (colorsS_any _ _ _ _ cs _ ((hR1.below hb1).below hb2) hN).mono ?_
    rintro e w3 ⟨A3, c3, rfl, hk3, hO3, hb3⟩
    have hz3 := hb3.size
    have hC4 := hO3.rd
    have hK4 := ((hK1.below hb1).below hb2).below hb3
    have hBW3 : Below W.heap.size W w3 := ((hBW.trans (hb1.mono hsW)).trans (hb2.mono (by omega))).trans (hb3.mono (by omega))
    have hsW3 : W.heap.size ≤ w3.heap.size := hBW3.size
    obtain ⟨cols, hcols⟩ : ∃ l, Hid (l = colorsOf s cs) := ⟨_, rfl⟩
    have hCB : ∀ a ∈ cols, 0 ≤ a ∧ a ≤ 5 := fun a ha => by rw [hcols.out] at ha; exact colors_bd ha
    rw [← hcols.out] at hC4 HE hcl ⊢
    clear hO3 hk3 e0 e1 e0r e1r hb1 hb2 hb3 hR1 hK1 hBW hsW hb hp hw hz1 hz2 hz3
    go_wp2_with fail
    go_loopw [8] (fun i wr => ∃ j : Nat, j ≤ cols.length ∧ i = .int .i64 (j : Int) ∧ Hid ((cols.take j).all (turnOk ks k) = true) ∧ Below w3.heap.size w3 wr) (fun i _ => cols.length - (intOf i).toNat)
    case atStart => exact ⟨0, Nat.zero_le _, rfl, by simp [Hid], Below.refl _ _⟩
    case round =>
      obtain ⟨j, hj, rfl, hall, hB⟩ := hrel
      have hz := hB.size
      by_cases hlt : j < cols.length
      · -- one color
        obtain ⟨b, off, x, rfl, hbW, hx, g0⟩ := hC4.int hlt hB
        have hxb := hCB _ (List.mem_of_getElem? hx)
        obtain ⟨p, rfl⟩ := Int.eq_ofNat_of_zero_le hxb.1
        have hp6 : p < m := by have := HM6.out; omega
        obtain ⟨b2, off2, y, rfl, hbW2, hy, k0⟩ := hK4.int hp6 hB
        have HKA := Lib.hid (show kindAt ks (p : Int) = y by unfold kindAt; rw [Int.toNat_natCast, List.getD_eq_getElem?_getD, hy]; rfl)
        have HX := Lib.hid hx
        clear hx hy
        have hpm : (p : Int) < (m : Int) := by omega
        rcases ht : mayTurn y k with _ | _
        · have HN := Lib.hid (show false = maySee s cs ks k by rw [← HE.out, all_no HX.out (show turnOk ks k (p : Int) = false by unfold turnOk; rw [HKA.out]; exact ht)])
          go_wp2_with (go_at_call 45; refine (mayTurnS_any _ _ _).mono ?_; rintro e w5 ⟨rfl, hb5⟩; rw [ht])
          go_ret
          exact ⟨ret_b HN.out, hBW3.trans ((hB.trans (hb5.mono hz)).mono hsW3)⟩
        · have HT := Lib.hid (show turnOk ks k (p : Int) = true by unfold turnOk; rw [HKA.out]; exact ht)
          go_wp2_with (go_at_call 45; refine (mayTurnS_any _ _ _).mono ?_; rintro e w5 ⟨rfl, hb5⟩; rw [ht])
          go_roundw
          case rel => exact ⟨j + 1, by omega, by go_num, all_take_succ HX.out hall.out HT.out, hB.trans (hb5.mono hz)⟩
          case measure => simp [intOf]; omega
      · obtain rfl : j = cols.length := by omega
        have HN := Lib.hid (show true = maySee s cs ks k by rw [← HE.out]; have := hall.out; rw [List.take_length] at this; exact this.symm)
        go_wp2
        go_ret
        exact ⟨ret_b HN.out, hBW3.trans (hB.mono hsW3)⟩

set_option maxRecDepth 100000 in
set_option maxHeartbeats 1000000 in
theorem turnsS_any (s : Int) (A : Option Addr) (n c : Nat) (cs : List Cell) (B : Option Addr) (m d : Nat) (ks : List Int) (W : World) (hR : Rd W A n 3 cs cellC) (hN : n ≤ 1048576) (hK : Rd W B m 1 ks intC) (hM : m ≤ 1048576) :
    Calls Try.prog 21 #[.agg #[.int .i64 s, .slice A n c], .slice B m d] W (Made W (turnsOf s cs ks).length 1 (turnsOf s cs ks) intC) := by
  obtain ⟨jb, hjb⟩ : ∃ j, Hid (j = W.heap.size) := ⟨_, rfl⟩
  have e0 : (W.alloc (.cells #[.int .i64 s, .slice A n c] 30)).cell? ⟨jb, 0, none⟩ = some (.int .i64 s) := by rw [hjb.out, cell_of_row _ _ _ _ _ _ (heap_alloc_new W _)]; rfl
  have e1 : (W.alloc (.cells #[.int .i64 s, .slice A n c] 30)).cell? ⟨jb, 1, none⟩ = some (.slice A n c) := by rw [hjb.out, cell_of_row _ _ _ _ _ _ (heap_alloc_new W _)]; rfl
  have hR1 : Rd (W.alloc (.cells #[.int .i64 s, .slice A n c] 30)) A n 3 cs cellC := hR.below ((Below.refl _ _).alloc (Nat.le_refl _) _)
  have hK1 : Rd (W.alloc (.cells #[.int .i64 s, .slice A n c] 30)) B m 1 ks intC := hK.below ((Below.refl _ _).alloc (Nat.le_refl _) _)
  have hBW : Below W.heap.size W (W.alloc (.cells #[.int .i64 s, .slice A n c] 30)) := (Below.refl _ _).alloc (Nat.le_refl _) _
  have hsW : W.heap.size ≤ (W.alloc (.cells #[.int .i64 s, .slice A n c] 30)).heap.size := by simp
  have hM4 : m ≤ 4194304 := by omega
  unfold turnsOf
  have hsz1 : (W.alloc (.cells #[.int .i64 s, .slice A n c] 30)).heap.size = jb + 1 := by rw [hjb.out]; simp
  have hacc0 := Acc.lit0 (W.alloc (.cells #[.int .i64 s, .slice A n c] 30)) (jb + 1) 3 1 intC (Nat.le_of_eq hsz1.symm) rfl
  have e0a := keepcell e0 ((Below.refl _ _).alloc (Nat.le_refl _) (.cells #[] 3))
  have e1a := keepcell e1 ((Below.refl _ _).alloc (Nat.le_refl _) (.cells #[] 3))
  have hBa : Below W.heap.size W ((W.alloc (.cells #[.int .i64 s, .slice A n c] 30)).alloc (.cells #[] 3)) := by (repeat (first | exact Below.refl _ _ | assumption | (refine Below.drew ?_) | (refine below_drewN ?_ _) | (refine Below.alloc ?_ (by first | exact Nat.le_refl _ | (simp; done) | (simp; omega) | omega) _) | (refine Below.setCell ?_ (by first | exact Nat.le_refl _ | (simp; done) | (simp; omega) | omega) _) | (refine Below.trans ?_ (Below.mono (by assumption) (by first | exact Nat.le_refl _ | (simp; done) | (simp; omega) | omega)))))
  have hja : jb + 1 ≤ ((W.alloc (.cells #[.int .i64 s, .slice A n c] 30)).alloc (.cells #[] 3)).heap.size := by rw [hjb.out]; simp
  rw [hsz1] at hacc0
  go_enter Try.func21, Try.ntmps21
  go_wp2
  rw [← hjb.out]
  go_loopw [5, 6] (fun o i wr => ∃ k : Nat, k ≤ 4 ∧ i = .int .i64 (k : Int) ∧ Acc wr (jb + 1) 3 1 o (turnsUp s cs ks k) intC ∧ wr.cell? ⟨jb, 0, none⟩ = some (.int .i64 s) ∧ wr.cell? ⟨jb, 1, none⟩ = some (.slice A n c) ∧ Below W.heap.size W wr ∧ jb + 1 ≤ wr.heap.size) (fun _ i _ => 4 - (intOf i).toNat)
  case atStart => exact ⟨0, by omega, rfl, hacc0, e0a, e1a, hBa, hja⟩
  case round =>
    clear hacc0 e0a e1a hBa hja e0 e1 hR1 hK1 hBW hsW hsz1
    obtain ⟨k, hk, rfl, hacc, q0, q1, hB, hz⟩ := hrel
    by_cases hlt : k < 4
    · have HS := Lib.hid (turnsUp_succ s cs ks k)
      have hcl := turnsUp_len s cs ks k
      have hjW : W.heap.size ≤ wr.heap.size := hB.size
      rcases hs : maySee s cs ks (k : Int) with _ | _
      · have HE := Lib.hid (show turnsUp s cs ks (k + 1) = turnsUp s cs ks k by rw [HS.out, hs]; simp)
        go_wp2_with (go_at_call 10; refine (seeS_any _ _ _ _ cs _ _ _ ks _ _ (hR.below hB) hN (hK.below hB) hM).mono ?_; rintro e w3 ⟨rfl, hb3⟩; rw [hs])
        have hz3 := hb3.size
        go_roundw
        case rel => exact ⟨k + 1, by omega, by go_num, by rw [HE.out]; exact hacc.below hb3, keepcell q0 hb3, keepcell q1 hb3, hB.trans (hb3.mono hjW), by omega⟩
        case measure => simp [intOf]; omega
      · have HE := Lib.hid (show turnsUp s cs ks (k + 1) = turnsUp s cs ks k ++ [(k : Int)] by rw [HS.out, hs]; rfl)
        go_wp2_with (first | (go_at_call 10; refine (seeS_any _ _ _ _ cs _ _ _ ks _ _ (hR.below hB) hN (hK.below hB) hM).mono ?_; rintro e w3 ⟨rfl, hb3⟩; rw [hs]; have hacc3 := hacc.below hb3; have hz3 := hb3.size; have hz4 : jb + 1 ≤ w3.heap.size := (by omega)) | (at_builtin; refine wpList_acc1 rfl _ _ 25 rfl (jb + 1) 3 (.int .i64 0) 1 8 Try.underlying25 infoIntA rfl (by omega) _ _ intC (k : Int) rfl hacc3 _ _ rfl _ rfl (by simp) rfl (by simp [intC, Value.oneCell']) (by omega) (by omega) hz4 ?_; intro v' w5 hacc5 hgrow5 hat5))
        go_roundw
        case rel => exact ⟨k + 1, by omega, by go_num, by rw [HE.out]; exact hacc5, near_of hacc3 hgrow5 (keepcell q0 hb3) (Nat.lt_succ_self _), near_of hacc3 hgrow5 (keepcell q1 hb3) (Nat.lt_succ_self _), hacc3.grow_below (hB.trans (hb3.mono hjW)) hgrow5 (by rw [hjb.out]; omega) (by omega), by have := hgrow5.size; omega⟩
        case measure => simp [intOf]; omega
    · obtain rfl : k = 4 := by omega
      go_wp2
      go_ret
      exact hacc.made intC_len (W := W) (by rw [hjb.out]; omega) hB rfl

end Go.Proofs.Ytkbpehklfjnjjaa
