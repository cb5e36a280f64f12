/-
  Lists of Patch: how the law file copies, compares, marks and asks them.
-/
import Derived.Test.YtmjdgplkcocgmaaRows
import Derived.Test.YtmjdgplkcocgmaaZPlain
import Derived.Test.YtmjdgplkcocgmaaZWords
set_option linter.unusedVariables false
namespace Go.Proofs.Ytmjdgplkcocgmaa
open Go.RowKit

def patchC (x : Patch) : List Value := [.int .i64 x.X, .int .i64 x.Y, .int .i64 x.W, .int .i64 x.H, .int .i64 x.Color]

theorem Rd.patch {w w' : World} {A : Option Addr} {n : Nat} {xs : List Patch} (h : Rd w A n 5 xs patchC) {k : Nat} (hk : k < n) (hb : Below w.heap.size w w') :
    ∃ b off x, A = some ⟨b, off, none⟩ ∧ b < w.heap.size ∧ xs[k]? = some x ∧ w'.cell? ⟨b, off + k * 5, none⟩ = some (.int .i64 x.X) ∧ w'.cell? ⟨b, off + k * 5 + 1, none⟩ = some (.int .i64 x.Y) ∧ w'.cell? ⟨b, off + k * 5 + 2, none⟩ = some (.int .i64 x.W) ∧ w'.cell? ⟨b, off + k * 5 + 3, none⟩ = some (.int .i64 x.H) ∧ w'.cell? ⟨b, off + k * 5 + 4, none⟩ = some (.int .i64 x.Color) := by
  obtain ⟨b, off, x, e, hlt, hx, hc⟩ := h.at_ hk
  have hw : ∀ j u, (patchC x)[j]? = some u → w'.cell? ⟨b, off + (k * 5 + j), none⟩ = some u := fun j u hu => (hb.cell (p := ⟨b, _, none⟩) hlt).trans (hc j u hu)
  exact ⟨b, off, x, e, hlt, hx, hw 0 _ rfl, hw 1 _ rfl, hw 2 _ rfl, hw 3 _ rfl, hw 4 _ rfl⟩

theorem patchC_len (x : Patch) : (patchC x).length = 5 := rfl

set_option maxRecDepth 100000 in
theorem szPatchS_any (A : Option Addr) (n c : Nat) (l : Int) (w : World) (hl : -1 ≤ l) (hl2 : l ≤ 1048576) (hn : n ≤ 9223372036854775807) : Calls Try.prog 69 #[.slice A n c, .int .i64 l] w fun e w' => e = .returned (.int .i64 (szLeft l n)) ∧ w = w' := by
  by_cases hd : l - (n : Int) < 0
  · go_enter Try.func69, Try.ntmps69
    go_wp2
    go_ret
    exact ⟨ret_i (by unfold szLeft; rw [if_pos (by omega)]), rfl⟩
  · go_enter Try.func69, Try.ntmps69
    go_wp2
    go_ret
    exact ⟨ret_i (by unfold szLeft; rw [if_neg (by omega)]), rfl⟩

theorem toPatch_any (a0 : Int) (a1 : Int) (a2 : Int) (a3 : Int) (a4 : Int) (W : World) : Calls Try.prog 99 #[.agg #[.int .i64 a0, .int .i64 a1, .int .i64 a2, .int .i64 a3, .int .i64 a4]] W fun e w' => e = .returned (.agg #[.int .i64 a0, .int .i64 a1, .int .i64 a2, .int .i64 a3, .int .i64 a4]) ∧ Below W.heap.size W w' := by
  go_enter Try.func99, Try.ntmps99
  go_wp2
  exact bodyPost_ret (v := .agg #[.int .i64 a0, .int .i64 a1, .int .i64 a2, .int .i64 a3, .int .i64 a4]) (by simp [results, Try.results99, go_sem]) rfl ⟨rfl, by (repeat (first | exact Below.refl _ _ | assumption | (refine Below.drew ?_) | (refine below_drewN ?_ _) | (refine Below.alloc ?_ (by first | exact Nat.le_refl _ | (simp; done) | (simp; omega) | omega) _) | (refine Below.setCell ?_ (by first | exact Nat.le_refl _ | (simp; done) | (simp; omega) | omega) _) | (refine Below.trans ?_ (Below.mono (by assumption) (by first | exact Nat.le_refl _ | (simp; done) | (simp; omega) | omega)))))⟩

theorem eqPatch_any (a0 : Int) (a1 : Int) (a2 : Int) (a3 : Int) (a4 : Int) (W : World) : Calls Try.prog 40 #[.agg #[.int .i64 a0, .int .i64 a1, .int .i64 a2, .int .i64 a3, .int .i64 a4], .agg #[.int .i64 a0, .int .i64 a1, .int .i64 a2, .int .i64 a3, .int .i64 a4]] W fun e w' => e = .returned (.bool true) ∧ Below W.heap.size W w' := by
  go_enter Try.func40, Try.ntmps40
  go_wp2
  go_ret
  exact ⟨rfl, by (repeat (first | exact Below.refl _ _ | assumption | (refine Below.drew ?_) | (refine below_drewN ?_ _) | (refine Below.alloc ?_ (by first | exact Nat.le_refl _ | (simp; done) | (simp; omega) | omega) _) | (refine Below.setCell ?_ (by first | exact Nat.le_refl _ | (simp; done) | (simp; omega) | omega) _) | (refine Below.trans ?_ (Below.mono (by assumption) (by first | exact Nat.le_refl _ | (simp; done) | (simp; omega) | omega)))))⟩

set_option maxRecDepth 100000 in
theorem toPatchS_any (A : Option Addr) (n c : Nat) (xs : List Patch) (W : World) (h : Rd W A n 5 xs patchC) (hn : n ≤ 1048576) :
    Calls Try.prog 72 #[.slice A n c] W (Made W n 5 xs patchC) := by
  have hlen := Lib.hid h.len
  have hmk := mk_eq (P := Try.prog) 28 44 (.agg #[.int .i64 0, .int .i64 0, .int .i64 0, .int .i64 0, .int .i64 0]) 5 40 Try.underlying28 (by kernel_rfl) n (by omega) (by omega)
  go_enter Try.func72, Try.ntmps72
  go_wp2
  clear hmk
  have hP0 := Part.made W (Value.cells (.agg #[.int .i64 0, .int .i64 0, .int .i64 0, .int .i64 0, .int .i64 0])) 44 n 5 xs patchC
  obtain ⟨g, hg⟩ : ∃ g, Hid (g = W.heap.size) := ⟨_, rfl⟩
  rw [← hg.out] at hP0
  rw [show (Addr.mk W.heap.size 0 none) = Addr.mk g 0 none from by rw [hg.out]]
  go_loopw [4] (fun i wr => ∃ k : Nat, k ≤ n ∧ i = .int .i64 k ∧ Below W.heap.size W wr ∧ Part wr g 44 n 5 xs patchC k) (fun i _ => n - (intOf i).toNat)
  case atStart => exact ⟨0, Nat.zero_le _, rfl, by (repeat (first | exact Below.refl _ _ | assumption | (refine Below.drew ?_) | (refine below_drewN ?_ _) | (refine Below.alloc ?_ (by first | exact Nat.le_refl _ | (simp; done) | (simp; omega) | omega) _) | (refine Below.setCell ?_ (by first | exact Nat.le_refl _ | (simp; done) | (simp; omega) | omega) _) | (refine Below.trans ?_ (Below.mono (by assumption) (by first | exact Nat.le_refl _ | (simp; done) | (simp; omega) | omega))))), hP0⟩
  case round =>
    obtain ⟨k, hk, rfl, hB, hP⟩ := hrel
    have hz := hB.size
    have hglt := hP.lt
    by_cases hlt : k < n
    · obtain ⟨b, off, x, rfl, hbW, hx, h0, h1, h2, h3, h4⟩ := h.patch hlt hB
      have hX := Lib.hid hx
      clear hx
      obtain ⟨v0, hv0⟩ := hP.cell (o := k * 5) (by omega)
      obtain ⟨v1, hv1⟩ := hP.cell (o := k * 5 + 1) (by omega)
      obtain ⟨v2, hv2⟩ := hP.cell (o := k * 5 + 2) (by omega)
      obtain ⟨v3, hv3⟩ := hP.cell (o := k * 5 + 3) (by omega)
      obtain ⟨v4, hv4⟩ := hP.cell (o := k * 5 + 4) (by omega)
      have hp0 : wr.frozen? ⟨g, k * 5, none⟩ = false := hP.frozen _
      have hp1 : wr.frozen? ⟨g, k * 5 + 1, none⟩ = false := hP.frozen _
      have hp2 : wr.frozen? ⟨g, k * 5 + 2, none⟩ = false := hP.frozen _
      have hp3 : wr.frozen? ⟨g, k * 5 + 3, none⟩ = false := hP.frozen _
      have hp4 : wr.frozen? ⟨g, k * 5 + 4, none⟩ = false := hP.frozen _
      go_wp2_with (first | (go_at_call 99; refine (toPatch_any _ _ _ _ _ _ ).mono ?_; rintro e w1 ⟨rfl, hb1⟩; obtain ⟨hc1, hf1⟩ := bcell hb1; have hz1 := hb1.size; (try simp at hz1); (try (have hy1_W_0 : W.heap.size < w1.heap.size := (by omega))); (try (have hy1_W_1 : W.heap.size + 1 < w1.heap.size := (by omega))); (try (have hy1_W_2 : W.heap.size + 2 < w1.heap.size := (by omega))); (try (have hy1_wr_0 : wr.heap.size < w1.heap.size := (by omega))); (try (have hy1_wr_1 : wr.heap.size + 1 < w1.heap.size := (by omega))); (try (have hy1_wr_2 : wr.heap.size + 2 < w1.heap.size := (by omega))); (try (have hyb1 : b < w1.heap.size := (by omega)))))
      go_roundw
      case rel => exact ⟨k + 1, by omega, by go_num, below_setRow ((hB.trans (hb1.mono hz))) (g := g) (Nat.le_of_eq hg.out.symm) (k * 5) (patchC x), (hP.below hb1).store (k := k) hX.out patchC_len hlt⟩
      case measure => simp [intOf]; omega
    · go_wp2
      go_ret
      obtain rfl : k = n := by omega
      exact ⟨some ⟨g, 0, none⟩, k, rfl, Nat.le_refl _, ⟨hlen.out, fun _ => ⟨g, _, rfl, Nat.le_of_eq hg.out.symm, hP.lt, hP⟩⟩, by (repeat (first | exact Below.refl _ _ | assumption | (refine Below.drew ?_) | (refine below_drewN ?_ _) | (refine Below.alloc ?_ (by first | exact Nat.le_refl _ | (simp; done) | (simp; omega) | omega) _) | (refine Below.setCell ?_ (by first | exact Nat.le_refl _ | (simp; done) | (simp; omega) | omega) _) | (refine Below.trans ?_ (Below.mono (by assumption) (by first | exact Nat.le_refl _ | (simp; done) | (simp; omega) | omega)))))⟩

set_option maxRecDepth 100000 in
theorem eqPatchS_any (A B : Option Addr) (n c d : Nat) (xs : List Patch) (W : World) (h : Rd W A n 5 xs patchC) (h' : Rd W B n 5 xs patchC) (hn : n ≤ 1048576) :
    Calls Try.prog 76 #[.slice A n c, .slice B n d] W fun e w' => e = .returned (.bool true) ∧ Below W.heap.size W w' := by
  go_enter Try.func76, Try.ntmps76
  go_wp2
  go_loopw [5] (fun i wr => ∃ k : Nat, k ≤ n ∧ i = .int .i64 k ∧ Below W.heap.size W wr) (fun i _ => n - (intOf i).toNat)
  case atStart => exact ⟨0, Nat.zero_le _, rfl, Below.refl _ _⟩
  case round =>
    obtain ⟨k, hk, rfl, hB⟩ := hrel
    have hz := hB.size
    by_cases hlt : k < n
    · obtain ⟨b, off, x, rfl, hbW, hx, h0, h1, h2, h3, h4⟩ := h.patch hlt hB
      obtain ⟨b', off', x', rfl, hbW', hx', g0, g1, g2, g3, g4⟩ := h'.patch hlt hB
      obtain rfl : x = x' := by rw [hx] at hx'; injection hx'
      clear hx hx' h h'
      go_wp2
      go_still_tail 8, (by kernel_rfl)
      have hB0 := hB.drew
      have hz0 := hB0.size
      change wpList _ _ _ _ _ (World.drew wr)
      generalize World.drew wr = w0 at hB0 hz0 ⊢
      go_wp2_with (go_at_call 40; refine (eqPatch_any _ _ _ _ _ _ ).mono ?_; rintro e w1 ⟨rfl, hb1⟩; obtain ⟨hc1, hf1⟩ := bcell hb1; have hz1 := hb1.size; (try simp at hz1); (try (have hy1_W_0 : W.heap.size < w1.heap.size := (by omega))); (try (have hy1_W_1 : W.heap.size + 1 < w1.heap.size := (by omega))); (try (have hy1_W_2 : W.heap.size + 2 < w1.heap.size := (by omega))); (try (have hy1_wr_0 : wr.heap.size < w1.heap.size := (by omega))); (try (have hy1_wr_1 : wr.heap.size + 1 < w1.heap.size := (by omega))); (try (have hy1_wr_2 : wr.heap.size + 2 < w1.heap.size := (by omega))); (try (have hyb1 : b < w1.heap.size := (by omega))))
      go_roundw
      case rel => exact ⟨k + 1, by omega, by go_num, by (repeat (first | exact Below.refl _ _ | assumption | (refine Below.drew ?_) | (refine below_drewN ?_ _) | (refine Below.alloc ?_ (by first | exact Nat.le_refl _ | (simp; done) | (simp; omega) | omega) _) | (refine Below.setCell ?_ (by first | exact Nat.le_refl _ | (simp; done) | (simp; omega) | omega) _) | (refine Below.trans ?_ (Below.mono (by assumption) (by first | exact Nat.le_refl _ | (simp; done) | (simp; omega) | omega)))))⟩
      case measure => simp [intOf]; omega
    · go_wp2
      go_ret
      exact ⟨rfl, by (repeat (first | exact Below.refl _ _ | assumption | (refine Below.drew ?_) | (refine below_drewN ?_ _) | (refine Below.alloc ?_ (by first | exact Nat.le_refl _ | (simp; done) | (simp; omega) | omega) _) | (refine Below.setCell ?_ (by first | exact Nat.le_refl _ | (simp; done) | (simp; omega) | omega) _) | (refine Below.trans ?_ (Below.mono (by assumption) (by first | exact Nat.le_refl _ | (simp; done) | (simp; omega) | omega)))))⟩

def markPatchAt (k : Int) (i : Nat) : Patch := ⟨k + 5 * (i : Int), k + 5 * (i : Int) + 1, k + 5 * (i : Int) + 1 + 1, k + 5 * (i : Int) + 1 + 1 + 1, k + 5 * (i : Int) + 1 + 1 + 1 + 1⟩
def marksPatchS (k : Int) (n : Nat) : List Patch := (List.range n).map (markPatchAt k)
theorem marksPatchS_len (k : Int) (n : Nat) : (marksPatchS k n).length = n := by simp [marksPatchS]
theorem marksPatchS_at {k : Int} {n i : Nat} (h : i < n) : (marksPatchS k n)[i]? = some (markPatchAt k i) := by simp [marksPatchS, h]

set_option maxRecDepth 100000 in
theorem markPatchS_any (A : Option Addr) (n c lo hi : Nat) (q : Int) (xs : List Patch) (W : World) (h : Own W lo hi A n 5 xs patchC) (hn : n ≤ 4194304) (hq : 0 ≤ q) (hq2 : q ≤ 1000000000) :
    Calls Try.prog 77 #[.slice A n c, .int .i64 q] W fun e w' => e = .returned (.int .i64 (q + 5 * (n : Int))) ∧ Own w' lo hi A n 5 (marksPatchS q n) patchC ∧ Only lo hi W w' := by
  by_cases hn0 : n = 0
  · subst hn0
    go_enter Try.func77, Try.ntmps77
    go_wp2
    go_loop [1, 5] (fun s i => s = .int .i64 q ∧ i = .int .i64 0) (fun _ i => (intOf i).toNat)
    case atStart => exact ⟨rfl, rfl⟩
    case round =>
      obtain ⟨rfl, rfl⟩ := hrel
      go_wp2
      go_ret
      exact ⟨ret_i (by omega), ⟨rfl, fun hh => absurd hh (by omega)⟩, Only.refl _ _ _⟩
  · obtain ⟨g, T, rfl, hlo, hhi, hP0⟩ := h.2 (by omega)
    have hP1 := hP0.zero (marksPatchS q n) patchC
    clear hP0 h
    go_enter Try.func77, Try.ntmps77
    go_wp2
    go_loopw [1, 5] (fun s i wr => ∃ k : Nat, k ≤ n ∧ i = .int .i64 k ∧ s = .int .i64 (q + 5 * (k : Int)) ∧ W.grownBy wr (some g) ∧ Part wr g T n 5 (marksPatchS q n) patchC k) (fun _ i _ => n - (intOf i).toNat)
    case atStart => exact ⟨0, Nat.zero_le _, rfl, by simp, World.grownBy.refl _ _, hP1⟩
    case round =>
      obtain ⟨k, hk, rfl, rfl, hB, hP⟩ := hrel
      by_cases hlt : k < n
      · have hglt := hP.lt
        obtain ⟨v0, hv0⟩ := hP.cell (o := k * 5) (by omega)
        obtain ⟨v1, hv1⟩ := hP.cell (o := k * 5 + 1) (by omega)
        obtain ⟨v2, hv2⟩ := hP.cell (o := k * 5 + 2) (by omega)
        obtain ⟨v3, hv3⟩ := hP.cell (o := k * 5 + 3) (by omega)
        obtain ⟨v4, hv4⟩ := hP.cell (o := k * 5 + 4) (by omega)
        have hp0 : wr.frozen? ⟨g, k * 5, none⟩ = false := hP.frozen _
        have hp1 : wr.frozen? ⟨g, k * 5 + 1, none⟩ = false := hP.frozen _
        have hp2 : wr.frozen? ⟨g, k * 5 + 2, none⟩ = false := hP.frozen _
        have hp3 : wr.frozen? ⟨g, k * 5 + 3, none⟩ = false := hP.frozen _
        have hp4 : wr.frozen? ⟨g, k * 5 + 4, none⟩ = false := hP.frozen _
        go_wp2
        go_roundw
        case rel =>
          have hst := hP.store (marksPatchS_at hlt) patchC_len hlt
          have hon := only_setRow hB (k * 5) (patchC (markPatchAt q k))
          simp only [patchC, markPatchAt, setRow] at hst hon
          refine ⟨k + 1, by omega, by go_num, num_eq (by omega), ?_, ?_⟩
          · exact hon
          · exact hst
        case measure => simp [intOf]; omega
      · go_wp2
        go_ret
        obtain rfl : k = n := by omega
        exact ⟨rfl, ⟨marksPatchS_len _ _, fun _ => ⟨g, T, rfl, hlo, hhi, hP⟩⟩, Only.of_row hB hlo hhi⟩

set_option maxRecDepth 100000 in
theorem heldPatchS_any (A : Option Addr) (n c : Nat) (q : Int) (W : World) (h : Rd W A n 5 (marksPatchS q n) patchC) (hn : n ≤ 4194304) (hq : 0 ≤ q) (hq2 : q ≤ 1000000000) :
    Calls Try.prog 88 #[.slice A n c, .int .i64 q] W fun e w' => e = .returned (.int .i64 (q + 5 * (n : Int))) ∧ W = w' := by
  go_enter Try.func88, Try.ntmps88
  go_wp2
  go_loop [1, 5] (fun s i => ∃ k : Nat, k ≤ n ∧ i = .int .i64 k ∧ s = .int .i64 (q + 5 * (k : Int))) (fun _ i => n - (intOf i).toNat)
  case atStart => exact ⟨0, Nat.zero_le _, rfl, by simp⟩
  case round =>
    obtain ⟨k, hk, rfl, rfl⟩ := hrel
    by_cases hlt : k < n
    · obtain ⟨b, off, x, rfl, hbW, hx, h0, h1, h2, h3, h4⟩ := h.patch hlt (Below.refl _ _)
      rw [marksPatchS_at hlt] at hx
      injection hx with hx
      subst hx
      simp only [markPatchAt] at h0 h1 h2 h3 h4
      go_wp2
      go_round
      case rel => exact ⟨k + 1, by omega, by go_num, num_eq (by omega)⟩
      case measure => simp [intOf]; omega
    · go_wp2
      go_ret
      obtain rfl : k = n := by omega
      exact ⟨rfl, rfl⟩

end Go.Proofs.Ytmjdgplkcocgmaa
