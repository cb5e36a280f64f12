/-
  Structs that hold a slice: how the law file copies, compares and marks them.
-/
import Derived.Test.YtmjdgplkcocgmaaFlatPatch
set_option linter.unusedVariables false
namespace Go.Proofs.Ytmjdgplkcocgmaa
open Go.RowKit

theorem only_put {lo hi g o : Nat} {W w : World} (h : Only lo hi W w) (u : Value) (h1 : lo ≤ g) (h2 : g < hi) : Only lo hi W (w.setCell ⟨g, o, none⟩ u) :=
  ⟨h.os, h.tape, h.output, by simpa [World.setCell] using h.size, fun k hk hd => (Below.heap_setCell w ⟨g, o, none⟩ u k (by show k ≠ g; omega)).trans (h.block k hk hd)⟩
theorem only_cell {lo hi : Nat} {w w' : World} {b o : Nat} {v : Value} (h : w.cell? ⟨b, o, none⟩ = some v) (ho : Only lo hi w w') (hd : b < lo ∨ hi ≤ b) : w'.cell? ⟨b, o, none⟩ = some v := by
  have hb := block_lt_of_cell h
  have := ho.block b hb hd
  exact (World.cell?_of_block (a := ⟨b, o, none⟩) this).trans h

theorem szLayout_any (a0 a1 : Int) (A : Option Addr) (n c : Nat) (l : Int) (W : World) (hl : -1 ≤ l) (hl2 : l ≤ 1048576) (hn : n ≤ 9223372036854775807) : Calls Try.prog 15 #[.agg #[.int .i64 a0, .int .i64 a1, .slice A n c], .int .i64 l] W fun e w' => e = .returned (.int .i64 (szLeft l n)) ∧ Below W.heap.size W w' := by
  rcases szLeft_cases l n with ⟨h1, h2⟩ | ⟨h1, h2⟩
  · go_enter Try.func15, Try.ntmps15
    go_wp2_with (go_at_call 69; refine (szPatchS_any _ _ _ _ _ hl hl2 hn).mono ?_; rintro e w' ⟨rfl, rfl⟩)
    go_ret
    exact ⟨ret_i h2.symm, by (repeat (first | exact Below.refl _ _ | assumption | (refine Below.drew ?_) | (refine below_drewN ?_ _) | (refine Below.alloc ?_ (by first | exact Nat.le_refl _ | (simp; done) | (simp; omega) | omega) _) | (refine Below.setCell ?_ (by first | exact Nat.le_refl _ | (simp; done) | (simp; omega) | omega) _) | (refine Below.trans ?_ (Below.mono (by assumption) (by first | exact Nat.le_refl _ | (simp; done) | (simp; omega) | omega)))))⟩
  · go_enter Try.func15, Try.ntmps15
    go_wp2_with (go_at_call 69; refine (szPatchS_any _ _ _ _ _ hl hl2 hn).mono ?_; rintro e w' ⟨rfl, rfl⟩)
    go_ret
    exact ⟨ret_i (by first | rfl | exact h2.symm), by (repeat (first | exact Below.refl _ _ | assumption | (refine Below.drew ?_) | (refine below_drewN ?_ _) | (refine Below.alloc ?_ (by first | exact Nat.le_refl _ | (simp; done) | (simp; omega) | omega) _) | (refine Below.setCell ?_ (by first | exact Nat.le_refl _ | (simp; done) | (simp; omega) | omega) _) | (refine Below.trans ?_ (Below.mono (by assumption) (by first | exact Nat.le_refl _ | (simp; done) | (simp; omega) | omega)))))⟩

def MadeLayout (W : World) (a0 a1 : Int) (n : Nat) (xs : List Patch) (e : Ending) (w' : World) : Prop :=
  ∃ A c, e = .returned (.agg #[.int .i64 a0, .int .i64 a1, .slice A n c]) ∧ n ≤ c ∧ Own w' W.heap.size w'.heap.size A n 5 xs patchC ∧ Below W.heap.size W w'

theorem toLayout_any (a0 a1 : Int) (A : Option Addr) (n c : Nat) (xs : List Patch) (W : World) (h : Rd W A n 5 xs patchC) (hn : n ≤ 1048576) :
    Calls Try.prog 17 #[.agg #[.int .i64 a0, .int .i64 a1, .slice A n c]] W (MadeLayout W a0 a1 n xs) := by
  go_enter Try.func17, Try.ntmps17
  go_wp2_with fail
  refine (toPatchS_any A n c xs _ (h.below (by (repeat (first | exact Below.refl _ _ | assumption | (refine Below.drew ?_) | (refine below_drewN ?_ _) | (refine Below.alloc ?_ (by first | exact Nat.le_refl _ | (simp; done) | (simp; omega) | omega) _) | (refine Below.setCell ?_ (by first | exact Nat.le_refl _ | (simp; done) | (simp; omega) | omega) _) | (refine Below.trans ?_ (Below.mono (by assumption) (by first | exact Nat.le_refl _ | (simp; done) | (simp; omega) | omega))))))) hn).mono ?_
  rintro e w1 ⟨A1, c1, rfl, hk1, hO1, hb1⟩
  obtain ⟨hc1, hf1⟩ := bcell hb1
  have hz1 := hb1.size
  simp at hz1
  have hy1 : W.heap.size < w1.heap.size := by omega
  have hy2 : W.heap.size + 1 < w1.heap.size := by omega
  have hy3 : W.heap.size + 1 + 1 < w1.heap.size := by omega
  have hB1 : Below W.heap.size W w1 := by (repeat (first | exact Below.refl _ _ | assumption | (refine Below.drew ?_) | (refine below_drewN ?_ _) | (refine Below.alloc ?_ (by first | exact Nat.le_refl _ | (simp; done) | (simp; omega) | omega) _) | (refine Below.setCell ?_ (by first | exact Nat.le_refl _ | (simp; done) | (simp; omega) | omega) _) | (refine Below.trans ?_ (Below.mono (by assumption) (by first | exact Nat.le_refl _ | (simp; done) | (simp; omega) | omega)))))
  go_wp2
  refine bodyPost_ret (v := .agg #[.int .i64 a0, .int .i64 a1, .slice A1 n c1]) (by simp [results, Try.results17, go_sem, hc1]) rfl ⟨A1, c1, rfl, hk1, ?_, ?_⟩
  · refine (hO1.only (lo' := W.heap.size) (hi' := W.heap.size + 3) ?_ (by simp)).mono (by simp; omega) (by simp [World.setCell])
    repeat (first | exact Only.refl _ _ _ | (refine only_put ?_ _ (by omega) (by omega)))
  · (repeat (first | exact Below.refl _ _ | assumption | (refine Below.drew ?_) | (refine below_drewN ?_ _) | (refine Below.alloc ?_ (by first | exact Nat.le_refl _ | (simp; done) | (simp; omega) | omega) _) | (refine Below.setCell ?_ (by first | exact Nat.le_refl _ | (simp; done) | (simp; omega) | omega) _) | (refine Below.trans ?_ (Below.mono (by assumption) (by first | exact Nat.le_refl _ | (simp; done) | (simp; omega) | omega)))))

theorem eqLayout_any (a0 a1 : Int) (A B : Option Addr) (n c d : Nat) (xs : List Patch) (W : World) (h : Rd W A n 5 xs patchC) (h' : Rd W B n 5 xs patchC) (hn : n ≤ 1048576) :
    Calls Try.prog 20 #[.agg #[.int .i64 a0, .int .i64 a1, .slice A n c], .agg #[.int .i64 a0, .int .i64 a1, .slice B n d]] W fun e w' => e = .returned (.bool true) ∧ Below W.heap.size W w' := by
  go_enter Try.func20, Try.ntmps20
  go_wp2_with fail
  refine (eqPatchS_any _ _ n _ _ xs _ (h.below (by (repeat (first | exact Below.refl _ _ | assumption | (refine Below.drew ?_) | (refine below_drewN ?_ _) | (refine Below.alloc ?_ (by first | exact Nat.le_refl _ | (simp; done) | (simp; omega) | omega) _) | (refine Below.setCell ?_ (by first | exact Nat.le_refl _ | (simp; done) | (simp; omega) | omega) _) | (refine Below.trans ?_ (Below.mono (by assumption) (by first | exact Nat.le_refl _ | (simp; done) | (simp; omega) | omega))))))) (h'.below (by (repeat (first | exact Below.refl _ _ | assumption | (refine Below.drew ?_) | (refine below_drewN ?_ _) | (refine Below.alloc ?_ (by first | exact Nat.le_refl _ | (simp; done) | (simp; omega) | omega) _) | (refine Below.setCell ?_ (by first | exact Nat.le_refl _ | (simp; done) | (simp; omega) | omega) _) | (refine Below.trans ?_ (Below.mono (by assumption) (by first | exact Nat.le_refl _ | (simp; done) | (simp; omega) | omega))))))) hn).mono ?_
  rintro e w1 ⟨rfl, hb1⟩
  go_wp2_with fail
  go_ret
  exact ⟨rfl, by (repeat (first | exact Below.refl _ _ | assumption | (refine Below.drew ?_) | (refine below_drewN ?_ _) | (refine Below.alloc ?_ (by first | exact Nat.le_refl _ | (simp; done) | (simp; omega) | omega) _) | (refine Below.setCell ?_ (by first | exact Nat.le_refl _ | (simp; done) | (simp; omega) | omega) _) | (refine Below.trans ?_ (Below.mono (by assumption) (by first | exact Nat.le_refl _ | (simp; done) | (simp; omega) | omega)))))⟩

theorem markLayout_any (a0 a1 : Int) (A : Option Addr) (n c lo hi : Nat) (q : Int) (xs : List Patch) (W : World) (h : Own W lo hi A n 5 xs patchC) (hn : n ≤ 4194304) (hq : 0 ≤ q) (hq2 : q ≤ 1000000000) :
    Calls Try.prog 21 #[.agg #[.int .i64 a0, .int .i64 a1, .slice A n c], .int .i64 q] W fun e w' => e = .returned (.int .i64 (q + 5 * (n : Int))) ∧ Own w' lo hi A n 5 (marksPatchS q n) patchC ∧ Only lo hi W w' := by
  go_enter Try.func21, Try.ntmps21
  go_wp2_with fail
  refine (markPatchS_any A n c lo hi q xs _ (h.below (by (repeat (first | exact Below.refl _ _ | assumption | (refine Below.drew ?_) | (refine below_drewN ?_ _) | (refine Below.alloc ?_ (by first | exact Nat.le_refl _ | (simp; done) | (simp; omega) | omega) _) | (refine Below.setCell ?_ (by first | exact Nat.le_refl _ | (simp; done) | (simp; omega) | omega) _) | (refine Below.trans ?_ (Below.mono (by assumption) (by first | exact Nat.le_refl _ | (simp; done) | (simp; omega) | omega))))))) hn hq hq2).mono ?_
  rintro e w1 ⟨rfl, hM, hg⟩
  go_wp2_with fail
  go_ret
  exact ⟨rfl, hM, (Only.of_below ((Below.refl _ _).alloc (Nat.le_refl _) _)).trans hg⟩

end Go.Proofs.Ytmjdgplkcocgmaa
