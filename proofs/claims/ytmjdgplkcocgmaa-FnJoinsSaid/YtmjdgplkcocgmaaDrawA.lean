/-
  Contracts of the drawing of inputs: a cursor over the bytes of a code.
-/
import Derived.Test.YtmjdgplkcocgmaaRows
import Derived.Test.YtmjdgplkcocgmaaZWords
import Derived.Test.YtmjdgplkcocgmaaZPlain
set_option linter.unusedVariables false
namespace Go.Proofs.Ytmjdgplkcocgmaa
open Go.RowKit

/-- Block g holds a cursor over the code, which is as it was in W0; nothing below W0's blocks has turned. -/
def Cur (W0 w : World) (g : Nat) (A : Option Addr) (n : Nat) (xs : List UInt8) : Prop :=
  Rd W0 A n 1 xs byteC ∧ Below W0.heap.size W0 w ∧ W0.heap.size ≤ g ∧ n ≤ 1048576 ∧
    ∃ (c i : Nat) (h : Int), i ≤ n ∧ w.heap[g]? = some (.cells #[.slice A n c, .int .i64 i, .int .i64 h] 120 (0, 0))
theorem Cur.below {W0 w w' : World} {g : Nat} {A : Option Addr} {n : Nat} {xs : List UInt8} (h : Cur W0 w g A n xs) (hb : Below w.heap.size w w') : Cur W0 w' g A n xs := by
  obtain ⟨h1, h2, h3, h4, c, i, k, h5, h6⟩ := h
  exact ⟨h1, h2.trans (hb.mono h2.size), h3, h4, c, i, k, h5, (hb.block g (heap_lt h6)).trans h6⟩
theorem Cur.only {W0 w w' : World} {g lo hi : Nat} {A : Option Addr} {n : Nat} {xs : List UInt8} (h : Cur W0 w g A n xs) (ho : Only lo hi w w') (hd : g < lo ∨ hi ≤ g) (hl : W0.heap.size ≤ lo) : Cur W0 w' g A n xs := by
  obtain ⟨h1, h2, h3, h4, c, i, k, h5, h6⟩ := h
  exact ⟨h1, below_only h2 ho h2.size hl, h3, h4, c, i, k, h5, (ho.block g (heap_lt h6) (by omega)).trans h6⟩
theorem Cur.grow {W0 w w' : World} {g : Nat} {A : Option Addr} {n : Nat} {xs : List UInt8} (h : Cur W0 w g A n xs) {row : Option Nat} (ho : w.grownBy w' row) (hd : row ≠ some g) (hl : ∀ k, row = some k → W0.heap.size ≤ k) : Cur W0 w' g A n xs := by
  obtain ⟨h1, h2, h3, h4, c, i, k, h5, h6⟩ := h
  exact ⟨h1, h2.grown ho h2.size hl, h3, h4, c, i, k, h5, (ho.block g (heap_lt h6) (fun e => hd e.symm)).trans h6⟩
theorem Cur.lt {W0 w : World} {g : Nat} {A : Option Addr} {n : Nat} {xs : List UInt8} (h : Cur W0 w g A n xs) : g < w.heap.size := by
  obtain ⟨h1, h2, h3, h4, c, i, k, h5, h6⟩ := h
  exact heap_lt h6
theorem Cur.base {W0 w : World} {g : Nat} {A : Option Addr} {n : Nat} {xs : List UInt8} (h : Cur W0 w g A n xs) : Below W0.heap.size W0 w := h.2.1
theorem Cur.le {W0 w : World} {g : Nat} {A : Option Addr} {n : Nat} {xs : List UInt8} (h : Cur W0 w g A n xs) : W0.heap.size ≤ g := h.2.2.1

/-- What a draw leaves: a number of which p holds; only the cursor has turned. -/
def Drawn (W0 W : World) (g : Nat) (A : Option Addr) (n : Nat) (xs : List UInt8) (p : Int → Prop) (e : Ending) (w' : World) : Prop :=
  ∃ x : Int, e = .returned (.int .i64 x) ∧ p x ∧ Cur W0 w' g A n xs ∧ Only g (g + 1) W w'
def DrawnB (W0 W : World) (g : Nat) (A : Option Addr) (n : Nat) (xs : List UInt8) (e : Ending) (w' : World) : Prop :=
  ∃ x : Bool, e = .returned (.bool x) ∧ Cur W0 w' g A n xs ∧ Only g (g + 1) W w'

theorem and255 (a : Int) : 0 ≤ bits .and .i64 a 255 ∧ bits .and .i64 a 255 ≤ 255 := by
  show 0 ≤ IntKind.i64.wrap ((BitVec.ofInt 64 a &&& BitVec.ofInt 64 255).toNat : Int) ∧ IntKind.i64.wrap ((BitVec.ofInt 64 a &&& BitVec.ofInt 64 255).toNat : Int) ≤ 255
  have h : (BitVec.ofInt 64 a &&& BitVec.ofInt 64 255).toNat ≤ 255 := by
    rw [BitVec.toNat_and]
    exact Nat.le_trans Nat.and_le_right (by decide)
  rw [IntKind.wrap_i64]
  omega

theorem only_set {g o : Nat} {w w' : World} (h : Only g (g + 1) w w') (u : Value) : Only g (g + 1) w (w'.setCell ⟨g, o, none⟩ u) :=
  ⟨h.os, h.tape, h.output, by simpa [World.setCell] using h.size, fun k hk hd => (Below.heap_setCell w' ⟨g, o, none⟩ u k (by show k ≠ g; omega)).trans (h.block k hk hd)⟩
theorem only_drewN {lo hi : Nat} {w w' : World} (h : Only lo hi w w') (n : Nat) : Only lo hi w (w'.drewN n) := ⟨h.os, h.tape, h.output, h.size, h.block⟩
theorem only_drew {lo hi : Nat} {w w' : World} (h : Only lo hi w w') : Only lo hi w w'.drew := ⟨h.os, h.tape, h.output, h.size, h.block⟩
theorem cur_heap {w : World} {g : Nat} {T : TypeId} {a b c : Value} (h : w.heap[g]? = some (.cells #[a, b, c] T (0, 0))) (u : Value) :
    (w.setCell ⟨g, 2, none⟩ u).heap[g]? = some (.cells #[a, b, u] T (0, 0)) ∧ (w.setCell ⟨g, 1, none⟩ u).heap[g]? = some (.cells #[a, u, c] T (0, 0)) := by
  constructor <;> simp [World.setCell, Array.getElem?_modify, h]

theorem l01Byte_any (W0 : World) (g : Nat) (A : Option Addr) (n : Nat) (xs : List UInt8) (W : World) (hC : Cur W0 W g A n xs) :
    Calls Try.prog 108 #[.pointer (some ⟨g, 0, none⟩)] W (Drawn W0 W g A n xs (fun x => 0 ≤ x ∧ x ≤ 255)) := by
  obtain ⟨hR, hB, hg, hn, c, i, h, hi, hH⟩ := hC
  have e0 : W.cell? ⟨g, 0, none⟩ = some (.slice A n c) := by rw [cell_of_row _ _ _ _ _ _ hH]; rfl
  have e1 : W.cell? ⟨g, 1, none⟩ = some (.int .i64 i) := by rw [cell_of_row _ _ _ _ _ _ hH]; rfl
  have e2 : W.cell? ⟨g, 2, none⟩ = some (.int .i64 h) := by rw [cell_of_row _ _ _ _ _ _ hH]; rfl
  have f1 : W.frozen? ⟨g, 1, none⟩ = false := frozen_of_row W g 1 _ _ hH
  have f2 : W.frozen? ⟨g, 2, none⟩ = false := frozen_of_row W g 2 _ _ hH
  have HH := Lib.hid hH
  clear hH
  by_cases hlt : i < n
  · obtain ⟨b, off, x, rfl, hbW, hx, hc⟩ := hR.at1 hlt hB
    have hbg : ¬ b = g := by omega
    clear hx
    go_enter Try.func108, Try.ntmps108
    go_wp2
    go_quiet (fail)
    go_wp2
    go_quiet (fail)
    go_wp2
    go_quiet (fail)
    go_wp2
    go_ret
    refine ⟨_, rfl, and255 _, ⟨hR, ?_, hg, hn, c, i + 1, _, by omega, (cur_heap (cur_heap HH.out _).1 _).2⟩, ?_⟩
    · (repeat (first | exact Below.refl _ _ | assumption | (refine Below.drew ?_) | (refine below_drewN ?_ _) | (refine Below.alloc ?_ (by first | exact Nat.le_refl _ | (simp; done) | (simp; omega) | omega) _) | (refine Below.setCell ?_ (by first | exact Nat.le_refl _ | (simp; done) | (simp; omega) | omega) _) | (refine Below.trans ?_ (Below.mono (by assumption) (by first | exact Nat.le_refl _ | (simp; done) | (simp; omega) | omega)))))
    · repeat (first | exact Only.refl _ _ _ | refine only_drewN ?_ _ | refine only_drew ?_ | refine only_set ?_ _)
  · go_enter Try.func108, Try.ntmps108
    go_wp2
    go_quiet (fail)
    go_wp2
    go_quiet (fail)
    go_wp2
    go_ret
    refine ⟨_, rfl, and255 _, ⟨hR, ?_, hg, hn, c, i, _, hi, (cur_heap HH.out _).1⟩, ?_⟩
    · (repeat (first | exact Below.refl _ _ | assumption | (refine Below.drew ?_) | (refine below_drewN ?_ _) | (refine Below.alloc ?_ (by first | exact Nat.le_refl _ | (simp; done) | (simp; omega) | omega) _) | (refine Below.setCell ?_ (by first | exact Nat.le_refl _ | (simp; done) | (simp; omega) | omega) _) | (refine Below.trans ?_ (Below.mono (by assumption) (by first | exact Nat.le_refl _ | (simp; done) | (simp; omega) | omega)))))
    · repeat (first | exact Only.refl _ _ _ | refine only_drewN ?_ _ | refine only_drew ?_ | refine only_set ?_ _)

theorem l01Below_any (W0 : World) (g : Nat) (A : Option Addr) (n : Nat) (xs : List UInt8) (m : Int) (W : World) (hC : Cur W0 W g A n xs) (hm : m ≤ 256) :
    Calls Try.prog 102 #[.pointer (some ⟨g, 0, none⟩), .int .i64 m] W (Drawn W0 W g A n xs (fun x => 0 ≤ x ∧ (0 < m → x < m) ∧ (m ≤ 0 → x = 0))) := by
  by_cases h0 : m ≤ 0
  · go_enter Try.func102, Try.ntmps102
    go_wp2_with fail
    go_ret
    exact ⟨0, rfl, ⟨by omega, by omega, by omega⟩, hC, Only.refl _ _ _⟩
  · go_enter Try.func102, Try.ntmps102
    go_wp2_with fail
    refine (l01Byte_any W0 g A n xs _ hC).mono ?_
    rintro e w1 ⟨x, rfl, hx, hC1, ho1⟩
    have hx0 := hx.1
    have hx1 := hx.2
    have hmod := Int.emod_nonneg x (show m ≠ 0 by omega)
    have hmod2 := Int.emod_lt_of_pos x (show 0 < m by omega)
    go_wp2_with fail
    go_ret
    exact ⟨_, rfl, ⟨hmod, fun _ => hmod2, fun h => absurd h (by omega)⟩, hC1, ho1⟩

theorem l01Once_any (W0 : World) (g : Nat) (A : Option Addr) (n : Nat) (xs : List UInt8) (m : Int) (W : World) (hC : Cur W0 W g A n xs) (hm : m ≤ 256) :
    Calls Try.prog 103 #[.pointer (some ⟨g, 0, none⟩), .int .i64 m] W (DrawnB W0 W g A n xs) := by
  go_enter Try.func103, Try.ntmps103
  go_wp2_with fail
  refine (l01Below_any W0 g A n xs m _ hC hm).mono ?_
  rintro e w1 ⟨x, rfl, hx, hC1, ho1⟩
  clear hx
  go_wp2_with fail
  go_ret
  exact ⟨_, rfl, hC1, ho1⟩

def NewOut (W : World) (A : Option Addr) (n : Nat) (xs : List UInt8) (e : Ending) (w' : World) : Prop :=
  ∃ g, e = .returned (.pointer (some ⟨g, 0, none⟩)) ∧ Cur W w' g A n xs
theorem l01New_any (A : Option Addr) (n c : Nat) (xs : List UInt8) (W : World) (hR : Rd W A n 1 xs byteC) (hn : n ≤ 1048576) :
    Calls Try.prog 81 #[.slice A n c] W (NewOut W A n xs) := by
  go_enter Try.func81, Try.ntmps81
  go_wp2
  go_loop [3, 4] (fun s i => ∃ (k : Nat) (h : Int), k ≤ n ∧ i = .int .i64 k ∧ s = .int .i64 h) (fun _ i => n - (intOf i).toNat)
  case atStart => exact ⟨0, _, Nat.zero_le _, rfl, rfl⟩
  case round =>
    obtain ⟨k, h, hk, rfl, rfl⟩ := hrel
    by_cases hlt : k < n
    · obtain ⟨b, off, x, rfl, hbW, hx, hc⟩ := hR.at1 hlt (Below.refl _ _)
      by_cases h4 : (k : Int) < 4000
      · go_wp2
        go_round
        case rel => exact ⟨k + 1, _, by omega, by go_num, rfl⟩
        case measure => simp [intOf]; omega
      · go_wp2
        go_ret
        exact ⟨_, rfl, hR, by (repeat (first | exact Below.refl _ _ | assumption | (refine Below.drew ?_) | (refine below_drewN ?_ _) | (refine Below.alloc ?_ (by first | exact Nat.le_refl _ | (simp; done) | (simp; omega) | omega) _) | (refine Below.setCell ?_ (by first | exact Nat.le_refl _ | (simp; done) | (simp; omega) | omega) _) | (refine Below.trans ?_ (Below.mono (by assumption) (by first | exact Nat.le_refl _ | (simp; done) | (simp; omega) | omega))))), Nat.le_refl _, hn, c, 0, _, Nat.zero_le _, heap_alloc_new W _⟩
    · go_wp2
      go_ret
      exact ⟨_, rfl, hR, by (repeat (first | exact Below.refl _ _ | assumption | (refine Below.drew ?_) | (refine below_drewN ?_ _) | (refine Below.alloc ?_ (by first | exact Nat.le_refl _ | (simp; done) | (simp; omega) | omega) _) | (refine Below.setCell ?_ (by first | exact Nat.le_refl _ | (simp; done) | (simp; omega) | omega) _) | (refine Below.trans ?_ (Below.mono (by assumption) (by first | exact Nat.le_refl _ | (simp; done) | (simp; omega) | omega))))), Nat.le_refl _, hn, c, 0, _, Nat.zero_le _, heap_alloc_new W _⟩

theorem big_any (A : Option Addr) (n c : Nat) (W : World) (hn : n ≤ 9223372036854775807) : Calls Try.prog 26 #[.slice A n c] W fun e w' => e = .returned (.bool (decide ((1048576 : Int) < n))) ∧ W = w' := by
  go_enter Try.func26, Try.ntmps26
  go_wp2
  go_ret
  exact ⟨rfl, rfl⟩

theorem btoi_any (b : Bool) (W : World) : Calls Try.prog 55 #[.bool b] W fun e w' => e = .returned (.int .i64 (if b = true then 1 else 0)) ∧ W = w' := by
  cases b
  all_goals
    go_enter Try.func55, Try.ntmps55
    go_wp2
    go_ret
    exact ⟨rfl, rfl⟩

/-- at: some byte of the code. -/
def AtOut (W : World) (e : Ending) (w' : World) : Prop := ∃ x : Int, e = .returned (.int .i64 x) ∧ 0 ≤ x ∧ x ≤ 255 ∧ W = w'

theorem at_any (A : Option Addr) (n c : Nat) (xs : List UInt8) (i : Int) (W : World) (hR : Rd W A n 1 xs byteC) (hn : n ≤ 1048576) (hi : 0 ≤ i) (hi2 : i ≤ 100) :
    Calls Try.prog 27 #[.slice A n c, .int .i64 i] W (AtOut W) := by
  by_cases h0 : n = 0
  · subst h0
    go_enter Try.func27, Try.ntmps27
    go_wp2
    go_ret
    exact ⟨0, rfl, by omega, by omega, rfl⟩
  · have hn0 : ((n : Int) == 0) = false := by rw [beq_eq_false_iff_ne]; omega
    have hm := Int.emod_nonneg (i * 5 + 1) (show (n : Int) ≠ 0 by omega)
    have hm2 := Int.emod_lt_of_pos (i * 5 + 1) (show 0 < (n : Int) by omega)
    obtain ⟨k, hk⟩ := Int.eq_ofNat_of_zero_le hm
    rw [hk] at hm2
    have hlt : k < n := by omega
    obtain ⟨b, off, x, rfl, hbW, hx, hc⟩ := hR.at1 hlt (Below.refl _ _)
    have hx2 : (x.toNat : Int) ≤ 255 := by have := x.toNat_lt; omega
    have hx1 : 0 ≤ (x.toNat : Int) := by omega
    clear hx hm hm2 h0
    go_enter Try.func27, Try.ntmps27
    go_wp2
    all_goals
      go_ret
      exact ⟨_, rfl, hx1, hx2, rfl⟩

end Go.Proofs.Ytmjdgplkcocgmaa
