/-
  The words for memory that all texts of this seat use: a slice that is read as a list of flat elements (Rd), a slice that lies in a block of the call's own (Own).
-/
import Derived.WalkKit
import Derived.ProofKit
import Derived.OpenShut
import Derived.WalkSpells
import Derived.WalkLawsBesides
import Derived.Lib.Hide
import Derived.Lib.SmallJoins
import Derived.Deep.OwnRows
import Derived.Deep.Slices
import Derived.Deep.Fields
import Derived.Deep.Draws
import Derived.Deep.QuietTactic
import Derived.BigQuiet
import Derived.Deep.LoopGhost
import Derived.Deep.DeepCutAuto
set_option linter.unusedVariables false
namespace Go.Proofs.Ytkhiffenaiakhaa
open Go.RowKit

theorem bcell {W w1 : World} (hb : Below W.heap.size W w1) : (∀ b o, b < W.heap.size → w1.cell? ⟨b, o, none⟩ = W.cell? ⟨b, o, none⟩) ∧ (∀ b o, b < W.heap.size → w1.frozen? ⟨b, o, none⟩ = W.frozen? ⟨b, o, none⟩) :=
  ⟨fun b o h => hb.cell (p := ⟨b, o, none⟩) h, fun b o h => hb.frozen (p := ⟨b, o, none⟩) h⟩

theorem below_drewN {B : Nat} {a w : World} (h : Below B a w) (n : Nat) : Below B a (w.drewN n) := ⟨h.os, h.tape, h.output, h.size, h.block⟩

theorem ret_b {a b : Bool} (h : a = b) : Ending.returned (.bool a) = .returned (.bool b) := by rw [h]
theorem ret_i {a b : Int} (h : a = b) : Ending.returned (.int .i64 a) = .returned (.int .i64 b) := by rw [h]

theorem ret_ii {a b c d : Int} (h : a = c) (k : b = d) : Ending.returned (.tuple #[.int .i64 a, .int .i64 b]) = .returned (.tuple #[.int .i64 c, .int .i64 d]) := by rw [h, k]

theorem addr_form {w : World} {a : Addr} {u : Value} (h : w.cell? a = some u) : a = ⟨a.block, a.off, none⟩ := by
  obtain ⟨b, o, s⟩ := a
  cases s with
  | none => rfl
  | some x =>
    exfalso
    revert h
    simp only [World.cell?]
    split <;> simp

theorem add_form (b off k : Nat) : (Addr.mk b off none).add k = ⟨b, off + k, none⟩ := by
  unfold Addr.add
  by_cases h : k = 0
  · subst h; simp
  · simp [h]

/-! ### A slice that is read -/

/-- The slice '.slice A n c' reads as the list xs: the cells of element i, sz of them, stand at i * sz. -/
def Rd {α : Type} (w : World) (A : Option Addr) (n sz : Nat) (xs : List α) (cells : α → List Value) : Prop :=
  xs.length = n ∧ (0 < n → ∃ b off, A = some ⟨b, off, none⟩ ∧ b < w.heap.size ∧ ∀ (i : Nat) (x : α) (j : Nat) (u : Value), xs[i]? = some x → (cells x)[j]? = some u → w.cell? ⟨b, off + (i * sz + j), none⟩ = some u)

section
variable {α : Type} {w w' : World} {A : Option Addr} {n sz : Nat} {xs : List α} {cells : α → List Value}

theorem Rd.len (h : Rd w A n sz xs cells) : xs.length = n := h.1
theorem Rd.below (h : Rd w A n sz xs cells) (hb : Below w.heap.size w w') : Rd w' A n sz xs cells :=
  ⟨h.1, fun hn => by
    obtain ⟨b, off, e, hlt, hc⟩ := h.2 hn
    exact ⟨b, off, e, Nat.lt_of_lt_of_le hlt hb.size, fun i x j u h1 h2 => (hb.cell (p := ⟨b, _, none⟩) hlt).trans (hc i x j u h1 h2)⟩⟩
theorem Rd.nil (w : World) (A : Option Addr) (sz : Nat) (cells : α → List Value) : Rd w A 0 sz [] cells := ⟨rfl, fun h => absurd h (by omega)⟩
theorem Rd.at_ (h : Rd w A n sz xs cells) {k : Nat} (hk : k < n) :
    ∃ b off x, A = some ⟨b, off, none⟩ ∧ b < w.heap.size ∧ xs[k]? = some x ∧ ∀ j u, (cells x)[j]? = some u → w.cell? ⟨b, off + (k * sz + j), none⟩ = some u := by
  obtain ⟨b, off, e, hlt, hc⟩ := h.2 (by omega)
  have hl : k < xs.length := by rw [h.1]; exact hk
  exact ⟨b, off, xs[k], e, hlt, List.getElem?_eq_getElem hl, fun j u hu => hc k _ j u (List.getElem?_eq_getElem hl) hu⟩
end

def intC (x : Int) : List Value := [.int .i64 x]
def boolC (x : Bool) : List Value := [.bool x]
def byteC (x : Int) : List Value := [.int .u8 x]

/-- Index k of a slice of one-cell elements, in a later world. -/
theorem Rd.at1 {α : Type} {w w' : World} {A : Option Addr} {n : Nat} {xs : List α} {v : α → Value} (h : Rd w A n 1 xs (fun x => [v x])) {k : Nat} (hk : k < n) (hb : Below w.heap.size w w') :
    ∃ b off x, A = some ⟨b, off, none⟩ ∧ b < w.heap.size ∧ xs[k]? = some x ∧ w'.cell? ⟨b, off + k, none⟩ = some (v x) := by
  obtain ⟨b, off, x, e, hlt, hx, hc⟩ := h.at_ hk
  exact ⟨b, off, x, e, hlt, hx, (hb.cell (p := ⟨b, _, none⟩) hlt).trans (by simpa using hc 0 _ rfl)⟩

/-! ### A slice in a block of the call's own -/

def Own {α : Type} (w : World) (base : Nat) (A : Option Addr) (n sz : Nat) (xs : List α) (cells : α → List Value) : Prop :=
  xs.length = n ∧ (0 < n → ∃ g cs T, A = some ⟨g, 0, none⟩ ∧ base ≤ g ∧ w.heap[g]? = some (.cells cs T (0, 0)) ∧ n * sz ≤ cs.size ∧ ∀ (i : Nat) (x : α) (j : Nat) (u : Value), xs[i]? = some x → (cells x)[j]? = some u → cs[i * sz + j]? = some u)

section
variable {α : Type} {w w' : World} {base : Nat} {A : Option Addr} {n sz : Nat} {xs : List α} {cells : α → List Value}

theorem heap_lt {w : World} {g : Nat} {o : Obj} (h : w.heap[g]? = some o) : g < w.heap.size := by
  obtain ⟨hlt, _⟩ := Array.getElem?_eq_some_iff.1 h
  exact hlt

theorem Own.rd (h : Own w base A n sz xs cells) : Rd w A n sz xs cells :=
  ⟨h.1, fun hn => by
    obtain ⟨g, cs, T, e, _, hg, _, hc⟩ := h.2 hn
    refine ⟨g, 0, e, heap_lt hg, fun i x j u h1 h2 => ?_⟩
    rw [cell_of_row w g _ cs T (0, 0) hg, Nat.zero_add]
    exact hc i x j u h1 h2⟩
theorem Own.grown (h : Own w base A n sz xs cells) {row : Option Nat} (hg : w.grownBy w' row) (hr : ∀ a, A = some a → 0 < n → some a.block ≠ row) : Own w' base A n sz xs cells :=
  ⟨h.1, fun hn => by
    obtain ⟨g, cs, T, e, hb, hh, hz, hc⟩ := h.2 hn
    exact ⟨g, cs, T, e, hb, (hg.block g (heap_lt hh) (hr _ e hn)).trans hh, hz, hc⟩⟩
theorem Own.below (h : Own w base A n sz xs cells) (hb : Below w.heap.size w w') : Own w' base A n sz xs cells :=
  ⟨h.1, fun hn => by
    obtain ⟨g, cs, T, e, hg, hh, hz, hc⟩ := h.2 hn
    exact ⟨g, cs, T, e, hg, (hb.block g (heap_lt hh)).trans hh, hz, hc⟩⟩
theorem Own.mono (h : Own w base A n sz xs cells) {base' : Nat} (hb : base' ≤ base) : Own w base' A n sz xs cells :=
  ⟨h.1, fun hn => by
    obtain ⟨g, cs, T, e, hg, r⟩ := h.2 hn
    exact ⟨g, cs, T, e, Nat.le_trans hb hg, r⟩⟩
end

end Go.Proofs.Ytkhiffenaiakhaa
