/-
  The drawing of joins: a tree, the deepest unit the last.
-/
import Derived.Test.YtmjdgplkcocgmaaDrawM
import Derived.Test.YtmjdgplkcocgmaaJoiE
import Derived.Test.YtmjdgplkcocgmaaJoiN
set_option linter.unusedVariables false
set_option linter.unusedSimpArgs false
namespace Go.Proofs.Ytmjdgplkcocgmaa
open Go.RowKit

/-- what the law needs of joins -/
def SewGood (js : List Join) (n : Int) : Prop := treeOk js n = true ∧ ((chainRounds js n).length : Int) = depthOf js n
theorem good_none : SewGood [] 1 := by
  unfold SewGood
  decide
theorem good_joins {l : Lay} (k : okLay l = true) (hs : canSew l = true) : SewGood (joinsOf l) (l.ps.length : Int) := by
  have ht := joinsOf_tree k hs
  obtain ⟨d, D, hd, hD, _, _, hm⟩ := joinsOf_depth k hs
  refine ⟨ht, ?_⟩
  rw [chain_yes (d := d) ht (by rw [Int.toNat_natCast]; exact hd), rounds_len, Int.toNat_natCast, hm, hD]

def JoinsDrawn (W : World) (e : Ending) (w' : World) : Prop :=
  ∃ (A : Option Addr) (p q : Nat) (js : List Join) (n : Int), e = .returned (.tuple #[.slice A p q, .int .i64 n]) ∧ p ≤ q ∧ Rd w' A p 3 js joinC ∧ SewGood js n ∧ Below W.heap.size W w'

set_option maxRecDepth 100000 in
set_option maxHeartbeats 4000000 in
theorem drawJoins_any (A : Option Addr) (n c : Nat) (xs : List UInt8) (W : World) (hR : Rd W A n 1 xs byteC) (hn : n ≤ 1048576) :
    Calls Try.prog 62 #[.slice A n c] W (JoinsDrawn W) := by
  go_enter Try.func62, Try.ntmps62
  go_wp2_with fail
  refine (l01New_any A n c xs _ hR hn).mono ?_
  rintro e w1 ⟨g, rfl, hC1⟩
  go_wp2_with fail
  refine (l09Cut_any _ _ A n xs _ hC1).mono ?_
  rintro e w2 ⟨w, h, ps, A1, n1, c1, rfl, hok, hR1, hC2⟩
  have hb := hC2.base
  have HOK := Lib.hid hok
  have HLEN := Lib.hid hR1.len
  have hn12 := (layout_parts hok).2.2.1
  rw [HLEN.out] at hn12
  have hN : n1 ≤ 1048576 := by omega
  obtain ⟨w3, hw3⟩ : ∃ v, Hid (w2.alloc (.cells #[.int .i64 w, .int .i64 h, .slice A1 n1 c1] 30) = v) := ⟨_, rfl⟩
  obtain ⟨j, hj⟩ : ∃ j, Hid (w2.heap.size = j) := ⟨_, rfl⟩
  have q3 : w3.heap[j]? = some (.cells #[.int .i64 w, .int .i64 h, .slice A1 n1 c1] 30 (0, 0)) := by rw [← hw3.out, ← hj.out]; exact heap_alloc_new w2 _
  have b3 : Below w2.heap.size w2 w3 := by rw [← hw3.out]; exact (Below.refl _ _).alloc (Nat.le_refl _) _
  have hB3 : Below W.heap.size W w3 := hb.trans (b3.mono hb.size)
  have hR3 := hR1.below b3
  clear hR1 hC2 hC1 hb b3 hok
  go_wp2_with fail
  rw [hw3.out, hj.out]
  refine (joinsOfS_any _ _ _ _ _ ps _ hR3 hN).mono ?_
  rintro e w4 ⟨J, p, q, rfl, hpq, hO4, hb4⟩
  have q4 := (hb4.block j (heap_lt q3)).trans q3
  have hB4 := hB3.trans (hb4.mono hB3.size)
  have e2 : w4.cell? ⟨j, 2, none⟩ = some (.slice A1 n1 c1) := by rw [cell_of_row _ _ _ _ _ _ q4]; rfl
  have hs4 := hB4.size
  clear hb4 hB3 hR3 q3 q4
  rcases hsw : canSew ⟨w, h, ps⟩ with _ | _
  · go_wp2
    exact bodyPost_ret (v := .tuple #[.slice (some ⟨w4.heap.size, 0, none⟩) 0 0, .int .i64 1]) (by simp [results, Try.results62, go_sem]) rfl ⟨_, 0, 0, [], 1, rfl, Nat.le_refl _, Rd.nil _ _ _ _, good_none, hB4.trans (Below.mono (B := w4.heap.size) (by (repeat (first | exact Below.refl _ _ | assumption | (refine Below.drew ?_) | (refine below_drewN ?_ _) | (refine Below.alloc ?_ (by first | exact Nat.le_refl _ | (simp; done) | (simp; omega) | omega) _) | (refine Below.setCell ?_ (by first | exact Nat.le_refl _ | (simp; done) | (simp; omega) | omega) _) | (refine Below.trans ?_ (Below.mono (by assumption) (by first | exact Nat.le_refl _ | (simp; done) | (simp; omega) | omega)))))) hs4)⟩
  · have HG := Lib.hid (good_joins (l := ⟨w, h, ps⟩) HOK.out hsw)
    go_wp2
    go_region
    all_goals
      go_wp2
      exact bodyPost_ret (v := .tuple #[.slice J p q, .int .i64 (n1 : Int)]) (by simp [results, Try.results62, go_sem]) rfl ⟨_, p, q, joinsOf ⟨w, h, ps⟩, (n1 : Int), rfl, hpq, hO4.rd, by have := HG.out; rw [← HLEN.out]; exact this, hB4.drew⟩

end Go.Proofs.Ytmjdgplkcocgmaa
