/-
  Words of this seat, joined in one text.
-/
import Derived.WalkKit
import Derived.ProofKit
import Derived.OpenShut
import Derived.WalkSpells
import Derived.WalkLawsBesides
import Derived.Lib.Hide
import Derived.Lib.SmallJoins
import Derived.Deep.OwnRows
import Derived.Deep.Slices
import Derived.Deep.Fields
import Derived.Deep.Draws
import Derived.Deep.QuietTactic
import Derived.BigQuiet
import Derived.Deep.LoopGhost
import Derived.Deep.DeepCutAuto
import Derived.StillTailTactics
import Derived.Deep.RegionHeld3
import Derived.Maps.AppendAt
import Derived.OwnWalk
import Derived.Laws.OwnMore
import Derived.Test.YtmjdgplkcocgmaaRows
import Derived.Deep.AppendLies
import Derived.Maps.OwnOps
import Derived.Maps.Views
import Derived.Test.YtmjdgplkcocgmaaZPlain

/-
  The words for memory that all texts of this seat use: a slice that is read as a list of flat elements (Rd), a slice that lies in a block of the call's own (Own).
-/
set_option linter.unusedVariables false
namespace Go.Proofs.Ytmjdgplkcocgmaa
open Go.RowKit

theorem bcell {W w1 : World} (hb : Below W.heap.size W w1) : (∀ b o, b < W.heap.size → w1.cell? ⟨b, o, none⟩ = W.cell? ⟨b, o, none⟩) ∧ (∀ b o, b < W.heap.size → w1.frozen? ⟨b, o, none⟩ = W.frozen? ⟨b, o, none⟩) :=
  ⟨fun b o h => hb.cell (p := ⟨b, o, none⟩) h, fun b o h => hb.frozen (p := ⟨b, o, none⟩) h⟩

theorem below_drewN {B : Nat} {a w : World} (h : Below B a w) (n : Nat) : Below B a (w.drewN n) := ⟨h.os, h.tape, h.output, h.size, h.block⟩

theorem ret_b {a b : Bool} (h : a = b) : Ending.returned (.bool a) = .returned (.bool b) := by rw [h]
theorem ret_i {a b : Int} (h : a = b) : Ending.returned (.int .i64 a) = .returned (.int .i64 b) := by rw [h]

theorem ret_ii {a b c d : Int} (h : a = c) (k : b = d) : Ending.returned (.tuple #[.int .i64 a, .int .i64 b]) = .returned (.tuple #[.int .i64 c, .int .i64 d]) := by rw [h, k]

theorem num_eq {a b : Int} (h : a = b) : Value.int .i64 a = .int .i64 b := by rw [h]

theorem addr_form {w : World} {a : Addr} {u : Value} (h : w.cell? a = some u) : a = ⟨a.block, a.off, none⟩ := by
  obtain ⟨b, o, s⟩ := a
  cases s with
  | none => rfl
  | some x =>
    exfalso
    revert h
    simp only [World.cell?]
    split <;> simp

theorem add_form (b off k : Nat) : (Addr.mk b off none).add k = ⟨b, off + k, none⟩ := by
  unfold Addr.add
  by_cases h : k = 0
  · subst h; simp
  · simp [h]

theorem keepcell {w w' : World} {a : Addr} {v : Value} (h : w.cell? a = some v) (hb : Below w.heap.size w w') : w'.cell? a = some v := (hb.cell (block_lt_of_cell h)).trans h

/-! ### A slice that is read -/

/-- The slice '.slice A n c' reads as the list xs: the cells of element i, sz of them, stand at i * sz. -/
def Rd {α : Type} (w : World) (A : Option Addr) (n sz : Nat) (xs : List α) (cells : α → List Value) : Prop :=
  xs.length = n ∧ (0 < n → ∃ b off, A = some ⟨b, off, none⟩ ∧ b < w.heap.size ∧ ∀ (i : Nat) (x : α) (j : Nat) (u : Value), xs[i]? = some x → (cells x)[j]? = some u → w.cell? ⟨b, off + (i * sz + j), none⟩ = some u)

section
variable {α : Type} {w w' : World} {A : Option Addr} {n sz : Nat} {xs : List α} {cells : α → List Value}

theorem Rd.len (h : Rd w A n sz xs cells) : xs.length = n := h.1
theorem Rd.below (h : Rd w A n sz xs cells) (hb : Below w.heap.size w w') : Rd w' A n sz xs cells :=
  ⟨h.1, fun hn => by
    obtain ⟨b, off, e, hlt, hc⟩ := h.2 hn
    exact ⟨b, off, e, Nat.lt_of_lt_of_le hlt hb.size, fun i x j u h1 h2 => (hb.cell (p := ⟨b, _, none⟩) hlt).trans (hc i x j u h1 h2)⟩⟩
theorem Rd.nil (w : World) (A : Option Addr) (sz : Nat) (cells : α → List Value) : Rd w A 0 sz [] cells := ⟨rfl, fun h => absurd h (by omega)⟩
theorem Rd.at_ (h : Rd w A n sz xs cells) {k : Nat} (hk : k < n) :
    ∃ b off x, A = some ⟨b, off, none⟩ ∧ b < w.heap.size ∧ xs[k]? = some x ∧ ∀ j u, (cells x)[j]? = some u → w.cell? ⟨b, off + (k * sz + j), none⟩ = some u := by
  obtain ⟨b, off, e, hlt, hc⟩ := h.2 (by omega)
  have hl : k < xs.length := by rw [h.1]; exact hk
  exact ⟨b, off, xs[k], e, hlt, List.getElem?_eq_getElem hl, fun j u hu => hc k _ j u (List.getElem?_eq_getElem hl) hu⟩
end

def intC (x : Int) : List Value := [.int .i64 x]
def boolC (x : Bool) : List Value := [.bool x]
def byteC (x : UInt8) : List Value := [.int .u8 (x.toNat : Int)]

/-- Index k of a slice of one-cell elements, in a later world. -/
theorem Rd.at1 {α : Type} {w w' : World} {A : Option Addr} {n : Nat} {xs : List α} {v : α → Value} (h : Rd w A n 1 xs (fun x => [v x])) {k : Nat} (hk : k < n) (hb : Below w.heap.size w w') :
    ∃ b off x, A = some ⟨b, off, none⟩ ∧ b < w.heap.size ∧ xs[k]? = some x ∧ w'.cell? ⟨b, off + k, none⟩ = some (v x) := by
  obtain ⟨b, off, x, e, hlt, hx, hc⟩ := h.at_ hk
  exact ⟨b, off, x, e, hlt, hx, (hb.cell (p := ⟨b, _, none⟩) hlt).trans (by simpa using hc 0 _ rfl)⟩

/-! ### A block of the call's own: a row of elements -/

theorem heap_lt {w : World} {g : Nat} {o : Obj} (h : w.heap[g]? = some o) : g < w.heap.size := by
  obtain ⟨hlt, _⟩ := Array.getElem?_eq_some_iff.1 h
  exact hlt

/-- Block g has room for n elements of sz cells, none frozen; the first k elements are those of xs. -/
def Part {α : Type} (w : World) (g : Nat) (T : TypeId) (n sz : Nat) (xs : List α) (cells : α → List Value) (k : Nat) : Prop :=
  ∃ c : Array Value, w.heap[g]? = some (.cells c T (0, 0)) ∧ n * sz ≤ c.size ∧ ∀ (i : Nat) (x : α) (j : Nat) (u : Value), i < k → xs[i]? = some x → (cells x)[j]? = some u → c[i * sz + j]? = some u

/-- Stores side by side, from offset o of block g on. -/
def setRow (w : World) (g o : Nat) : List Value → World
  | [] => w
  | u :: us => setRow (w.setCell ⟨g, o, none⟩ u) g (o + 1) us

section
variable {α : Type} {w w' : World} {g n sz k : Nat} {T : TypeId} {xs : List α} {cells : α → List Value}

theorem Part.made (w : World) (z : Array Value) (T : TypeId) (n sz : Nat) (xs : List α) (cells : α → List Value) : Part (w.alloc (.cells (madeCells z (n * sz)) T)) w.heap.size T n sz xs cells 0 :=
  ⟨_, heap_alloc_new w _, by rw [size_madeCells]; exact Nat.le_refl _, fun i _ _ _ h => absurd h (by omega)⟩
theorem Part.lt (h : Part w g T n sz xs cells k) : g < w.heap.size := by
  obtain ⟨c, hc, _⟩ := h
  exact heap_lt hc
theorem Part.frozen (h : Part w g T n sz xs cells k) (o : Nat) : w.frozen? ⟨g, o, none⟩ = false := by
  obtain ⟨c, hc, _⟩ := h
  simp [World.frozen?, hc]
theorem Part.cell (h : Part w g T n sz xs cells k) {o : Nat} (ho : o < n * sz) : ∃ u, w.cell? ⟨g, o, none⟩ = some u := by
  obtain ⟨c, hc, hz, _⟩ := h
  exact ⟨c[o]'(by omega), by rw [cell_of_row w g o c T (0, 0) hc, Array.getElem?_eq_getElem]⟩
theorem Part.block (h : Part w g T n sz xs cells k) (e : w'.heap[g]? = w.heap[g]?) : Part w' g T n sz xs cells k := by
  obtain ⟨c, hc, hz, hx⟩ := h
  exact ⟨c, e.trans hc, hz, hx⟩
theorem Part.below (h : Part w g T n sz xs cells k) (hb : Below w.heap.size w w') : Part w' g T n sz xs cells k := h.block (hb.block g h.lt)
theorem Part.mono (h : Part w g T n sz xs cells k) {k' : Nat} (hk : k' ≤ k) : Part w g T n sz xs cells k' := by
  obtain ⟨c, hc, hz, hx⟩ := h
  exact ⟨c, hc, hz, fun i x j u hi => hx i x j u (by omega)⟩
theorem Part.zero (h : Part w g T n sz xs cells k) {β : Type} (ys : List β) (cells' : β → List Value) : Part w g T n sz ys cells' 0 := by
  obtain ⟨c, hc, hz, hx⟩ := h
  exact ⟨c, hc, hz, fun i x j u hi => absurd hi (by omega)⟩
theorem Part.at_ (h : Part w g T n sz xs cells k) {i : Nat} {x : α} (hi : i < k) (hx : xs[i]? = some x) {j : Nat} {u : Value} (hu : (cells x)[j]? = some u) : w.cell? ⟨g, i * sz + j, none⟩ = some u := by
  obtain ⟨c, hc, hz, hh⟩ := h
  rw [cell_of_row w g _ c T (0, 0) hc]
  exact hh i x j u hi hx hu

/-- One store: the cells of the elements that are held may not be touched. -/
theorem Part.set_ (h : Part w g T n sz xs cells k) (o : Nat) (u : Value) (ho : ∀ i x j v, i < k → xs[i]? = some x → (cells x)[j]? = some v → i * sz + j = o → v = u) : Part (w.setCell ⟨g, o, none⟩ u) g T n sz xs cells k := by
  obtain ⟨c, hc, hz, hx⟩ := h
  refine ⟨c.setIfInBounds o u, ?_, by simpa using hz, fun i x j v hi h1 h2 => ?_⟩
  · simp [World.setCell, Array.getElem?_modify, hc]
  · have h3 := hx i x j v hi h1 h2
    rw [Array.getElem?_setIfInBounds]
    by_cases e : o = i * sz + j
    · have hlt : i * sz + j < c.size := (Array.getElem?_eq_some_iff.1 h3).1
      rw [if_pos e, if_pos (by omega), ho i x j v hi h1 h2 e.symm]
    · rw [if_neg e]; exact h3

theorem heap_setRow_other (w : World) (g o : Nat) (us : List Value) {b : Nat} (hb : b ≠ g) : (setRow w g o us).heap[b]? = w.heap[b]? := by
  induction us generalizing w o with
  | nil => rfl
  | cons u us ih =>
    unfold setRow
    rw [ih, Below.heap_setCell _ _ _ _ hb]

theorem heap_setRow (w : World) (g o : Nat) (us : List Value) {c : Array Value} {T : TypeId} (hc : w.heap[g]? = some (.cells c T (0, 0))) :
    ∃ c' : Array Value, (setRow w g o us).heap[g]? = some (.cells c' T (0, 0)) ∧ c'.size = c.size ∧ (∀ i, i < o ∨ o + us.length ≤ i → c'[i]? = c[i]?) ∧ ∀ j u, us[j]? = some u → o + j < c.size → c'[o + j]? = some u := by
  induction us generalizing w o c with
  | nil => exact ⟨c, hc, rfl, fun _ _ => rfl, fun j u h => by simp at h⟩
  | cons v us ih =>
    obtain ⟨c', h1, h2, h3, h4⟩ := ih (w.setCell ⟨g, o, none⟩ v) (o + 1) (c := c.setIfInBounds o v) (by simp [World.setCell, Array.getElem?_modify, hc])
    refine ⟨c', h1, by simpa using h2, fun i hi => ?_, fun j u hj hlt => ?_⟩
    · rw [h3 i (by simp only [List.length_cons] at hi; omega), Array.getElem?_setIfInBounds, if_neg (by simp only [List.length_cons] at hi; omega)]
    · cases j with
      | zero =>
        simp only [List.getElem?_cons_zero, Option.some.injEq] at hj
        subst hj
        rw [h3 (o + 0) (by omega), Array.getElem?_setIfInBounds, if_pos (by omega), if_pos (by omega)]
      | succ j =>
        rw [show o + (j + 1) = (o + 1) + j from by omega]
        exact h4 j u (by simpa using hj) (by simp; omega)

/-- The next element is stored. -/
theorem Part.store (h : Part w g T n sz xs cells k) {x : α} (hx : xs[k]? = some x) (hl : ∀ y, (cells y).length = sz) (hk : k < n) : Part (setRow w g (k * sz) (cells x)) g T n sz xs cells (k + 1) := by
  obtain ⟨c, hc, hz, hh⟩ := h
  obtain ⟨c', h1, h2, h3, h4⟩ := heap_setRow w g (k * sz) (cells x) hc
  refine ⟨c', h1, by omega, fun i y j u hi hy hu => ?_⟩
  have hj : j < sz := by rw [← hl y]; exact (List.getElem?_eq_some_iff.1 hu).1
  by_cases e : i = k
  · subst e
    rw [hx] at hy
    injection hy with hy
    subst hy
    have : (i + 1) * sz ≤ n * sz := Nat.mul_le_mul_right _ (by omega)
    rw [Nat.add_mul] at this
    exact h4 j u hu (by omega)
  · have : (i + 1) * sz ≤ k * sz := Nat.mul_le_mul_right _ (by omega)
    rw [Nat.add_mul] at this
    rw [h3 _ (by omega)]
    exact hh i y j u (by omega) hy hu

theorem below_setRow {B : Nat} {a : World} (h : Below B a w) {g : Nat} (hg : B ≤ g) (o : Nat) (us : List Value) : Below B a (setRow w g o us) := by
  induction us generalizing w o with
  | nil => exact h
  | cons u us ih => exact ih (h.setCell (p := ⟨g, o, none⟩) hg u) _

theorem only_setRow {a : World} (h : a.grownBy w (some g)) (o : Nat) (us : List Value) : a.grownBy (setRow w g o us) (some g) := by
  induction us generalizing w o with
  | nil => exact h
  | cons u us ih =>
    refine ih (w := w.setCell ⟨g, o, none⟩ u) ⟨h.os, h.tape, h.output, by simpa [World.setCell] using h.size, fun i hi hne => ?_⟩ (o + 1)
    rw [Below.heap_setCell _ _ _ _ (fun e => hne (by rw [e]))]
    exact h.block i hi hne
end

/-! ### Only the blocks from lo up to hi have turned -/

structure Only (lo hi : Nat) (w w' : World) : Prop where
  os : w'.os = w.os
  tape : w'.tape = w.tape
  output : w'.output = w.output
  size : w.heap.size ≤ w'.heap.size
  block : ∀ k, k < w.heap.size → (k < lo ∨ hi ≤ k) → w'.heap[k]? = w.heap[k]?

theorem Only.refl (lo hi : Nat) (w : World) : Only lo hi w w := ⟨rfl, rfl, rfl, Nat.le_refl _, fun _ _ _ => rfl⟩
theorem Only.trans {lo hi : Nat} {a b c : World} (h : Only lo hi a b) (k : Only lo hi b c) : Only lo hi a c :=
  ⟨k.os.trans h.os, k.tape.trans h.tape, k.output.trans h.output, Nat.le_trans h.size k.size, fun i hi hd => (k.block i (Nat.lt_of_lt_of_le hi h.size) hd).trans (h.block i hi hd)⟩
theorem Only.of_row {lo hi g : Nat} {w w' : World} (h : w.grownBy w' (some g)) (h1 : lo ≤ g) (h2 : g < hi) : Only lo hi w w' :=
  ⟨h.os, h.tape, h.output, h.size, fun k hk hd => h.block k hk (fun e => by injection e with e; omega)⟩
theorem Only.of_below {lo hi : Nat} {w w' : World} (h : Below w.heap.size w w') : Only lo hi w w' :=
  ⟨h.os, h.tape, h.output, h.size, fun k hk _ => h.block k hk⟩
theorem Only.mono {lo hi lo' hi' : Nat} {w w' : World} (h : Only lo hi w w') (h1 : lo' ≤ lo) (h2 : hi ≤ hi') : Only lo' hi' w w' :=
  ⟨h.os, h.tape, h.output, h.size, fun k hk hd => h.block k hk (by omega)⟩
/-- Below B nothing has turned, if what has turned lies from B on. -/
theorem below_only {B lo hi : Nat} {a w w' : World} (h : Below B a w) (ho : Only lo hi w w') (hB : B ≤ w.heap.size) (hl : B ≤ lo) : Below B a w' :=
  h.trans ⟨ho.os, ho.tape, ho.output, ho.size, fun k hk => ho.block k (by omega) (.inl (by omega))⟩

/-! ### A slice in a block of the call's own -/

def OwnP {α : Type} (w : World) (lo hi : Nat) (A : Option Addr) (n sz : Nat) (xs : List α) (cells : α → List Value) (k : Nat) : Prop :=
  xs.length = n ∧ (0 < n → ∃ g T, A = some ⟨g, 0, none⟩ ∧ lo ≤ g ∧ g < hi ∧ Part w g T n sz xs cells k)
/-- The slice '.slice A n c' lies at the head of a block from lo up to hi, and reads as xs. -/
def Own {α : Type} (w : World) (lo hi : Nat) (A : Option Addr) (n sz : Nat) (xs : List α) (cells : α → List Value) : Prop := OwnP w lo hi A n sz xs cells n

section
variable {α : Type} {w w' : World} {lo hi : Nat} {A : Option Addr} {n sz : Nat} {xs : List α} {cells : α → List Value}

theorem Own.rd (h : Own w lo hi A n sz xs cells) : Rd w A n sz xs cells :=
  ⟨h.1, fun hn => by
    obtain ⟨g, T, e, _, _, hp⟩ := h.2 hn
    refine ⟨g, 0, e, hp.lt, fun i x j u h1 h2 => ?_⟩
    rw [Nat.zero_add]
    have hi : i < n := by rw [← h.1]; exact (List.getElem?_eq_some_iff.1 h1).1
    exact hp.at_ hi h1 h2⟩
theorem Own.only (h : Own w lo hi A n sz xs cells) {lo' hi' : Nat} (ho : Only lo' hi' w w') (hd : hi ≤ lo' ∨ hi' ≤ lo) : Own w' lo hi A n sz xs cells :=
  ⟨h.1, fun hn => by
    obtain ⟨g, T, e, h1, h2, hp⟩ := h.2 hn
    exact ⟨g, T, e, h1, h2, hp.block (ho.block g hp.lt (by omega))⟩⟩
theorem Own.below (h : Own w lo hi A n sz xs cells) (hb : Below w.heap.size w w') : Own w' lo hi A n sz xs cells :=
  ⟨h.1, fun hn => by
    obtain ⟨g, T, e, h1, h2, hp⟩ := h.2 hn
    exact ⟨g, T, e, h1, h2, hp.below hb⟩⟩
theorem Own.mono (h : Own w lo hi A n sz xs cells) {lo' hi' : Nat} (h1 : lo' ≤ lo) (h2 : hi ≤ hi') : Own w lo' hi' A n sz xs cells :=
  ⟨h.1, fun hn => by
    obtain ⟨g, T, e, h3, h4, r⟩ := h.2 hn
    exact ⟨g, T, e, by omega, by omega, r⟩⟩
theorem Own.len (h : Own w lo hi A n sz xs cells) : xs.length = n := h.1
theorem Own.nil (w : World) (lo hi : Nat) (A : Option Addr) (sz : Nat) (cells : α → List Value) : Own w lo hi A 0 sz ([] : List α) cells := ⟨rfl, fun h => absurd h (by omega)⟩
theorem grownBy_trans {a b c : World} {row : Option Nat} (h : a.grownBy b row) (k : b.grownBy c row) : a.grownBy c row :=
  ⟨k.os.trans h.os, k.tape.trans h.tape, k.output.trans h.output, Nat.le_trans h.size k.size, fun i hi hne => (k.block i (Nat.lt_of_lt_of_le hi h.size) hne).trans (h.block i hi hne)⟩
end

/-- What a function leaves that makes a new slice: it reads as xs, in a block of its own. -/
def Made {α : Type} (W : World) (n sz : Nat) (xs : List α) (cells : α → List Value) (e : Ending) (w' : World) : Prop :=
  ∃ A c, e = .returned (.slice A n c) ∧ n ≤ c ∧ Own w' W.heap.size w'.heap.size A n sz xs cells ∧ Below W.heap.size W w'

/-- make([]T, n). -/
theorem mk_eq {P : Program} (t e : TypeId) (z : Value) (size bytes : Nat) (ht : P.underlying t = some (.slice e)) (hinfo : (P.info? e).map (fun i => (i.zero, i.size, i.bytes)) = some (some z, size, bytes))
    (n : Nat) (hb : bytes * n ≤ 281474976710656) (hn : n ≤ 9223372036854775807) (w : World) :
    (Instr.makeSlice t (.int .i64 (n : Int)) (.int .i64 (n : Int))).run P w = .ok (.slice (some ⟨w.heap.size, 0, none⟩) n n) (w.alloc (.cells (madeCells z.cells (n * size)) e)) := by
  obtain ⟨i, hi, hzz⟩ := Option.map_eq_some_iff.1 hinfo
  simp only [Prod.mk.injEq] at hzz
  obtain ⟨hz, hs, hby⟩ := hzz
  have hb' : (i.bytes : Int) * (n : Int) ≤ 281474976710656 := by
    have h : ((i.bytes * n : Nat) : Int) ≤ 281474976710656 := by rw [hby]; omega
    rwa [Int.natCast_mul] at h
  have hr := run_make (P := P) w t e i z ht hi hz .i64 .i64 (n : Int) (n : Int) (by omega) (by omega) hb' (by omega)
  simp only [Int.toNat_natCast, hs] at hr
  exact hr

end Go.Proofs.Ytmjdgplkcocgmaa

/-
  A slice that the call itself builds by append, one element at a time: Acc.
-/
set_option linter.unusedVariables false
namespace Go.Proofs.Ytmjdgplkcocgmaa
open Go.RowKit

/-- The value v is a slice of the call's own, in a block from lo on (or nil): it reads as xs and may be appended to. -/
def Acc {α : Type} (w : World) (lo : Nat) (e : TypeId) (sz : Nat) (v : Value) (xs : List α) (cells : α → List Value) : Prop :=
  w.ownsRow lo e sz v xs.length (xs.flatMap cells)

section
variable {α : Type} {w w' : World} {lo sz : Nat} {e : TypeId} {v : Value} {xs : List α} {cells : α → List Value}

theorem flat_at {α : Type} {sz : Nat} {xs : List α} {cells : α → List Value} (hl : ∀ y, (cells y).length = sz) : ∀ {i : Nat} {x : α} {j : Nat} {u : Value}, xs[i]? = some x → (cells x)[j]? = some u → (xs.flatMap cells)[i * sz + j]? = some u := by
  induction xs with
  | nil => intro i x j u h; simp at h
  | cons y ys ih =>
    intro i x j u h1 h2
    rw [List.flatMap_cons]
    have hj : j < sz := by rw [← hl x]; exact (List.getElem?_eq_some_iff.1 h2).1
    cases i with
    | zero =>
      simp at h1
      subst h1
      rw [Nat.zero_mul, Nat.zero_add, List.getElem?_append_left (by rw [hl]; exact hj)]
      exact h2
    | succ i =>
      rw [List.getElem?_append_right (by rw [hl, Nat.add_mul]; omega), hl, show (i + 1) * sz + j - sz = i * sz + j from by rw [Nat.add_mul]; omega]
      exact ih (by simpa using h1) h2

theorem Acc.nil (w : World) (lo : Nat) (e : TypeId) (sz : Nat) (cells : α → List Value) : Acc w lo e sz (.slice none 0 0) ([] : List α) cells := ⟨by simp, .inl ⟨rfl, rfl⟩⟩
theorem Acc.lit0 (w : World) (lo : Nat) (e : TypeId) (sz : Nat) (cells : α → List Value) (h : lo ≤ w.heap.size) {g : Nat} (hg : g = w.heap.size) : Acc (w.alloc (.cells #[] e)) lo e sz (.slice (some ⟨g, 0, none⟩) 0 0) ([] : List α) cells := by
  subst hg
  have := World.ownsRow_lit (base := lo) (e := e) (size := sz) w #[] 0 h (by unfold maxLen; omega) (by simp)
  simpa [Acc] using this
theorem Acc.below (h : Acc w lo e sz v xs cells) (hb : Below w.heap.size w w') : Acc w' lo e sz v xs cells := by
  obtain ⟨h1, h2⟩ := h
  refine ⟨h1, ?_⟩
  rcases h2 with h2 | ⟨g, cap, cur, hv, hg, hh, r⟩
  · exact .inl h2
  · exact .inr ⟨g, cap, cur, hv, hg, (hb.block g (heap_lt hh)).trans hh, r⟩
theorem Acc.mono (h : Acc w lo e sz v xs cells) {lo' : Nat} (hl : lo' ≤ lo) : Acc w lo' e sz v xs cells := by
  obtain ⟨h1, h2⟩ := h
  refine ⟨h1, ?_⟩
  rcases h2 with h2 | ⟨g, cap, cur, hv, hg, r⟩
  · exact .inl h2
  · exact .inr ⟨g, cap, cur, hv, Nat.le_trans hl hg, r⟩
theorem Acc.alloc (h : Acc w lo e sz v xs cells) (o : Obj) : Acc (w.alloc o) lo e sz v xs cells := h.below ((Below.refl _ _).alloc (Nat.le_refl _) o)
theorem Acc.drew (h : Acc w lo e sz v xs cells) : Acc w.drew lo e sz v xs cells := h
theorem Acc.drewN (h : Acc w lo e sz v xs cells) (n : Nat) : Acc (w.drewN n) lo e sz v xs cells := h
/-- Another row has grown. -/
theorem Acc.kept (h : Acc w lo e sz v xs cells) {row : Option Nat} (hg : w.grownBy w' row) (hne : ∀ g, v.ownBlock = some g → row ≠ some g) : Acc w' lo e sz v xs cells := by
  obtain ⟨h1, h2⟩ := h
  refine ⟨h1, ?_⟩
  rcases h2 with h2 | ⟨g, cap, cur, hv, hlo, hh, r⟩
  · exact .inl h2
  · exact .inr ⟨g, cap, cur, hv, hlo, (hg.block g (heap_lt hh) (fun e' => hne g (by rw [hv]; rfl) e'.symm)).trans hh, r⟩
theorem Acc.row (h : Acc w lo e sz v xs cells) {g : Nat} (hg : v.ownBlock = some g) : lo ≤ g ∧ g < w.heap.size := by
  rcases h.2 with ⟨rfl, _⟩ | ⟨g', cap, cur, rfl, hlo, hh, _⟩
  · cases hg
  · have : g' = g := by simpa [Value.ownBlock] using hg
    subst this
    exact ⟨hlo, heap_lt hh⟩
theorem Acc.grow_below {B : Nat} {W : World} (h : Acc w lo e sz v xs cells) (hB : Below B W w) (hg : w.grownBy w' v.ownBlock) (h1 : B ≤ lo) (h2 : B ≤ w.heap.size) : Below B W w' :=
  hB.grown hg h2 (fun k hk => Nat.le_trans h1 (h.row hk).1)
/-- What has been built may be read, and written. -/
theorem Acc.own (h : Acc w lo e sz v xs cells) (hl : ∀ y, (cells y).length = sz) : ∃ A c, v = .slice A xs.length c ∧ xs.length ≤ c ∧ Own w lo w.heap.size A xs.length sz xs cells := by
  rcases h.2 with ⟨rfl, hn⟩ | ⟨g, cap, cur, hv, hlo, hh, hc1, hc2, hsz, htk⟩
  · have : xs = [] := List.eq_nil_of_length_eq_zero hn
    subst this
    exact ⟨none, 0, rfl, Nat.le_refl _, Own.nil _ _ _ _ _ _⟩
  · refine ⟨_, _, hv, hc1, rfl, fun hn => ⟨g, e, rfl, hlo, heap_lt hh, cur, hh, ?_, fun i x j u hi hx hu => ?_⟩⟩
    · rw [hsz]; exact Nat.mul_le_mul_right _ hc1
    · have h1 := flat_at hl hx hu
      rw [← htk, List.getElem?_take] at h1
      split at h1
      · simpa using h1
      · cases h1
theorem Acc.made (h : Acc w' lo e sz v xs cells) (hl : ∀ y, (cells y).length = sz) {W : World} (hlo : W.heap.size ≤ lo) (hb : Below W.heap.size W w') {n : Nat} (hn : xs.length = n) : Made W n sz xs cells (.returned v) w' := by
  subst hn
  obtain ⟨A, c, rfl, hc, ho⟩ := h.own hl
  exact ⟨A, c, rfl, hc, ho.mono hlo (Nat.le_refl _), hb⟩
end

/-- append(out, y): the one new element lies in the newest block. -/
theorem wpList_acc1 {α : Type} {P : Program} {w : World} {ops : Array Oper} {rest : List Oper} {o : Oper} {a : Act} {Q : Exit → Act → World → Prop} (hgd : o.guard = none) (s x : Operand) (t : TypeId)
    (ho : o.op = .call { callee := .builtin .append, args := #[s, x], argTypes := #[t, t] })
    (lo : Nat) (e : TypeId) (z : Value) (sz bytes : Nat) (ht : P.underlying t = some (.slice e)) (hinfo : (P.info? e).map (fun i => (i.zero, i.size, i.bytes)) = some (some z, sz, bytes))
    (hzs : z.cells.size = sz) (hsz : 0 < sz) (v : Value) (xs : List α) (cells : α → List Value) (y : α) (hs : a.eval s = v) (hacc : Acc w lo e sz v xs cells)
    (cs : Array Value) (T' : TypeId) (hcs : cs.toList = cells y) (g : Nat) (hx : a.eval x = .slice (some ⟨g, 0, none⟩) 1 1) (hg : g = w.heap.size) (hl : (cells y).length = sz) (h1 : ∀ u ∈ cells y, u.oneCell' = true)
    (h63 : xs.length + 1 ≤ 4294967296) (hby : bytes ≤ 1024) (hlo : lo ≤ w.heap.size)
    (h : ∀ v' w', Acc w' lo e sz v' (xs ++ [y]) cells → w.grownBy w' v.ownBlock → (v'.ownBlock = v.ownBlock ∨ v'.ownBlock = some (w.heap.size + 1)) → wpList P ops Q rest (a.put o.dst v') w') :
    wpList P ops Q (o :: rest) a (w.alloc (.cells cs T')) := by
  subst hg
  obtain ⟨i, hi, hzz⟩ := Option.map_eq_some_iff.1 hinfo
  simp only [Prod.mk.injEq] at hzz
  obtain ⟨hz, hsi, hbi⟩ := hzz
  have hacc' : (w.alloc (.cells cs T')).ownsRow lo e sz v xs.length (xs.flatMap cells) := hacc.alloc _
  refine wpList_append_own_at (w.alloc (.cells cs T')) hgd s x t ho lo e i z sz bytes ht hi hz hsi hbi hzs hsz v xs.length (xs.flatMap cells) hs hacc' ⟨w.heap.size, 0, none⟩ 1 1 (cells y) hx (by omega) ?_ h1 (by unfold maxLen; omega) ?_ (by simp; omega) ?_
  · intro j u hu
    rw [add_form, cell_of_row _ _ _ _ _ _ (heap_alloc_new w _), Nat.zero_add]
    rw [← hcs] at hu
    simpa using hu
  · have : (xs.length + 1) * bytes ≤ 4294967296 * 1024 := Nat.mul_le_mul h63 hby
    omega
  · intro v' w' hown hgrow _ hat
    refine h v' w' ?_ ?_ (by simpa using hat)
    · show w'.ownsRow lo e sz v' (xs ++ [y]).length ((xs ++ [y]).flatMap cells)
      simpa using hown
    · exact ⟨hgrow.os, hgrow.tape, hgrow.output, Nat.le_trans (by simp) hgrow.size, fun k hk hne => (hgrow.block k (by simp; omega) hne).trans (Below.heap_alloc w _ k hk)⟩

/-- The block of v does not lie from lo up to hi. -/
def Sep (v : Value) (lo hi : Nat) : Prop := ∀ g, v.ownBlock = some g → g < lo ∨ hi ≤ g
theorem Sep.nil (lo hi : Nat) : Sep (.slice none 0 0) lo hi := fun g h => by cases h
theorem Sep.next {v v' : Value} {lo hi g : Nat} (h : Sep v lo hi) (hat : v'.ownBlock = v.ownBlock ∨ v'.ownBlock = some g) (hg : hi ≤ g) : Sep v' lo hi := by
  intro k hk
  rcases hat with e | e
  · exact h k (e ▸ hk)
  · rw [e] at hk
    injection hk with hk
    omega
theorem Sep.at_ {lo hi g n c : Nat} (h : g < lo ∨ hi ≤ g) : Sep (.slice (some ⟨g, 0, none⟩) n c) lo hi := by
  intro k hk
  have : g = k := by simpa [Value.ownBlock] using hk
  omega
theorem Own.app {α : Type} {w w' : World} {lo hi : Nat} {A : Option Addr} {n sz : Nat} {xs : List α} {cells : α → List Value} {v : Value} (h : Own w lo hi A n sz xs cells) (hg : w.grownBy w' v.ownBlock) (hs : Sep v lo hi) : Own w' lo hi A n sz xs cells :=
  ⟨h.1, fun hn => by
    obtain ⟨g, T, e, h1, h2, hp⟩ := h.2 hn
    exact ⟨g, T, e, h1, h2, hp.block (hg.block g hp.lt (fun e' => by have := hs g e'.symm; omega))⟩⟩

/-! ### A row of integers that is written in place -/

theorem Part.int_at {w : World} {g : Nat} {T : TypeId} {n : Nat} {d : List Int} (h : Part w g T n 1 d intC n) (hl : d.length = n) {p : Nat} (hp : p < n) : w.cell? ⟨g, p, none⟩ = some (.int .i64 (d.getD p 0)) := by
  have hx : d[p]? = some (d[p]'(by omega)) := List.getElem?_eq_getElem (by omega)
  have := h.at_ (i := p) (j := 0) (u := .int .i64 (d[p]'(by omega))) hp hx rfl
  rw [List.getD_eq_getElem?_getD, hx]
  simpa using this
theorem Part.int_set {w : World} {g : Nat} {T : TypeId} {n : Nat} {d : List Int} (h : Part w g T n 1 d intC n) {p : Nat} (z : Int) : Part (w.setCell ⟨g, p, none⟩ (.int .i64 z)) g T n 1 (d.set p z) intC n := by
  obtain ⟨c, hc, hz, hx⟩ := h
  refine ⟨c.setIfInBounds p (.int .i64 z), by simp [World.setCell, Array.getElem?_modify, hc], by simpa using hz, fun i x j u hi h1 h2 => ?_⟩
  have hj : j = 0 := by
    have := (List.getElem?_eq_some_iff.1 h2).1
    simp [intC] at this
    exact this
  subst hj
  rw [List.getElem?_set] at h1
  rw [Array.getElem?_setIfInBounds]
  by_cases e : p = i
  · subst e
    rw [if_pos rfl] at h1
    rw [if_pos (by omega), if_pos (by omega)]
    split at h1
    · injection h1 with h1
      subst h1
      simpa [intC] using h2
    · cases h1
  · rw [if_neg e] at h1
    rw [if_neg (by omega)]
    exact hx i x 0 u hi h1 h2
theorem Part.ints_made (w : World) (T : TypeId) (n : Nat) : Part (w.alloc (.cells (madeCells #[Value.int .i64 0] n) T)) w.heap.size T n 1 (List.replicate n (0 : Int)) intC n := by
  refine ⟨_, heap_alloc_new w _, by rw [size_madeCells]; omega, fun i x j u hi h1 h2 => ?_⟩
  rw [List.getElem?_replicate, if_pos hi] at h1
  injection h1 with h1
  subst h1
  have hj : j = 0 := by
    have := (List.getElem?_eq_some_iff.1 h2).1
    simp [intC] at this
    exact this
  subst hj
  simp [intC] at h2
  subst h2
  simp [madeCells, hi, Nat.mod_one]

end Go.Proofs.Ytmjdgplkcocgmaa

/-
  append(out, src...) of flat elements: what is only read is copied behind what is built.
-/
set_option linter.unusedVariables false
namespace Go.Proofs.Ytmjdgplkcocgmaa
open Go.RowKit

theorem flat_len {α : Type} {sz : Nat} {cells : α → List Value} (hl : ∀ y, (cells y).length = sz) (ys : List α) : (ys.flatMap cells).length = ys.length * sz := by
  induction ys with
  | nil => simp
  | cons y ys ih => rw [List.flatMap_cons, List.length_append, hl, ih, List.length_cons, Nat.add_mul]; omega
theorem flat_inv {α : Type} {sz : Nat} {cells : α → List Value} (hl : ∀ y, (cells y).length = sz) : ∀ {ys : List α} {j : Nat} {u : Value}, (ys.flatMap cells)[j]? = some u → ∃ (i : Nat) (y : α) (k : Nat), ys[i]? = some y ∧ (cells y)[k]? = some u ∧ j = i * sz + k := by
  intro ys
  induction ys with
  | nil => intro j u h; simp at h
  | cons y ys ih =>
    intro j u h
    rw [List.flatMap_cons] at h
    by_cases hj : j < sz
    · rw [List.getElem?_append_left (by rw [hl]; exact hj)] at h
      exact ⟨0, y, j, rfl, h, by omega⟩
    · rw [List.getElem?_append_right (by rw [hl]; omega), hl] at h
      obtain ⟨i, z, k, h1, h2, h3⟩ := ih h
      exact ⟨i + 1, z, k, by simpa using h1, h2, by rw [Nat.add_mul]; omega⟩
theorem run_append_nilG {P : Program} {w : World} (base : Nat) (t ty e : TypeId) (i : TypeInfo) (size c : Nat) (ht : P.underlying t = some (.slice e)) (hi : P.info? e = some i)
    (v : Value) (n : Nat) (xs : List Value) (hown : w.ownsRow base e size v n xs) :
    (Builtin.append_ #[t, t] ty #[v, .slice none 0 c]).run P w = .ok v w := by
  rcases hown.2 with ⟨rfl, rfl⟩ | ⟨g, cap, cur, rfl, _, _, hnc, _⟩
  · simp [Builtin.append_, run_underlying ht, sizeOf, typeInfo, hi, Builtin.lenOf, Builtin.firstCells]
  · simp [Builtin.append_, run_underlying ht, sizeOf, typeInfo, hi, Builtin.lenOf, Builtin.firstCells, hnc, storeCells]

theorem wpList_accsG {α : Type} {P : Program} {w : World} {ops : Array Oper} {rest : List Oper} {o : Oper} {a : Act} {Q : Exit → Act → World → Prop} (hgd : o.guard = none) (s x : Operand) (t : TypeId)
    (ho : o.op = .call { callee := .builtin .append, args := #[s, x], argTypes := #[t, t] })
    (lo : Nat) (e : TypeId) (z : Value) (sz bytes : Nat) (ht : P.underlying t = some (.slice e)) (hinfo : (P.info? e).map (fun i => (i.zero, i.size, i.bytes)) = some (some z, sz, bytes))
    (hzs : z.cells.size = sz) (hsz : 0 < sz)
    (v : Value) (xs ys : List α) (cells : α → List Value) (hl : ∀ y, (cells y).length = sz) (h1 : ∀ y, ∀ u ∈ cells y, u.oneCell' = true) (hs : a.eval s = v) (hacc : Acc w lo e sz v xs cells) (A : Option Addr) (n c : Nat) (hx : a.eval x = .slice A n c) (hR : Rd w A n sz ys cells)
    (h63 : xs.length + n ≤ 4294967296) (hby : bytes ≤ 1024) (hlo : lo ≤ w.heap.size)
    (h : ∀ v' w', Acc w' lo e sz v' (xs ++ ys) cells → w.grownBy w' v.ownBlock → (v'.ownBlock = v.ownBlock ∨ v'.ownBlock = some w.heap.size) → wpList P ops Q rest (a.put o.dst v') w') :
    wpList P ops Q (o :: rest) a w := by
  obtain ⟨i, hi, hzz⟩ := Option.map_eq_some_iff.1 hinfo
  simp only [Prod.mk.injEq] at hzz
  obtain ⟨hz, hsi, hbi⟩ := hzz
  have hlen := hR.len
  cases A with
  | none =>
    have hn0 : n = 0 := by
      rcases Nat.eq_zero_or_pos n with e1 | e1
      · exact e1
      · obtain ⟨b, off, x, e2, _⟩ := hR.at_ e1
        cases e2
    subst hn0
    have hy : ys = [] := List.eq_nil_of_length_eq_zero hlen
    subst hy
    refine wpList_plain hgd fun K hK => ?_
    have hrun := run_append_nilG (P := P) (w := w) lo t o.type e i sz c ht hi v _ _ hacc
    unfold Oper.wp
    simp [execOp, ho, resolve, invoke, builtin, hs, hx, hrun, Result.andThen]
    refine hK _ _ (h v w (by simpa using hacc) (World.grownBy.refl _ _) (.inl rfl))
  | some ad =>
    have hb2 : (xs.length + n) * bytes ≤ 140737488355328 := by
      have : (xs.length + n) * bytes ≤ 4294967296 * 1024 := Nat.mul_le_mul h63 hby
      omega
    refine wpList_append_own_at w hgd s x t ho lo e i z sz bytes ht hi hz hsi hbi hzs hsz v xs.length (xs.flatMap cells) hs hacc ad n c (ys.flatMap cells) hx ?_ ?_ ?_ (by unfold maxLen; omega) hb2 hlo ?_
    · rw [flat_len hl, hlen]
    · intro j u hu
      obtain ⟨i', y, k, hy, hk, rfl⟩ := flat_inv hl hu
      have hj : i' < n := by rw [← hlen]; exact (List.getElem?_eq_some_iff.1 hy).1
      obtain ⟨b, off, x, e2, _, hx', hc⟩ := hR.at_ hj
      injection e2 with e2
      subst e2
      rw [hy] at hx'
      injection hx' with hx'
      subst hx'
      rw [add_form]
      exact hc k u hk
    · intro u hu
      obtain ⟨y, _, hy⟩ := List.mem_flatMap.1 hu
      exact h1 y u hy
    · intro v' w' hown hgrow _ hat
      refine h v' w' ?_ hgrow hat
      show w'.ownsRow lo e sz v' (xs ++ ys).length ((xs ++ ys).flatMap cells)
      rw [List.length_append, hlen, List.flatMap_append]
      exact hown

end Go.Proofs.Ytmjdgplkcocgmaa

/-
  A field of an element of a slice that the call has built is written.
-/
set_option linter.unusedVariables false
namespace Go.Proofs.Ytmjdgplkcocgmaa
open Go.RowKit

theorem flat_set {α : Type} {sz : Nat} {cells : α → List Value} (hl : ∀ y, (cells y).length = sz) : ∀ {xs : List α} {p : Nat} {x y : α} {j : Nat} {u : Value}, xs[p]? = some x → j < sz → cells y = (cells x).set j u →
    (xs.flatMap cells).set (p * sz + j) u = (xs.set p y).flatMap cells := by
  intro xs
  induction xs with
  | nil => intro p x y j u h; simp at h
  | cons z zs ih =>
    intro p x y j u h hj hy
    rw [List.flatMap_cons]
    cases p with
    | zero =>
      simp at h
      subst h
      rw [Nat.zero_mul, Nat.zero_add, List.set_append_left _ _ (by rw [hl]; exact hj), List.set_cons_zero, List.flatMap_cons, hy]
    | succ p =>
      rw [List.set_append_right _ _ (by rw [hl, Nat.add_mul]; omega), List.set_cons_succ, List.flatMap_cons, hl, ← ih (by simpa using h) hj hy]
      congr 2
      rw [Nat.add_mul]; omega
theorem Acc.put {α : Type} {w : World} {lo sz g c : Nat} {e : TypeId} {xs : List α} {cells : α → List Value} (h : Acc w lo e sz (.slice (some ⟨g, 0, none⟩) xs.length c) xs cells) (hl : ∀ y, (cells y).length = sz) {p j : Nat} {x y : α} {u : Value}
    (hx : xs[p]? = some x) (hj : j < sz) (hy : cells y = (cells x).set j u) :
    Acc (w.setCell ⟨g, p * sz + j, none⟩ u) lo e sz (.slice (some ⟨g, 0, none⟩) xs.length c) (xs.set p y) cells ∧ w.grownBy (w.setCell ⟨g, p * sz + j, none⟩ u) (some g) := by
  obtain ⟨h1, h2⟩ := World.ownsRow.stored (w := w) (e := e) (base := lo) (size := sz) (g := g) (n := xs.length) (cap := c) (xs := xs.flatMap cells) h (p * sz + j) u
  refine ⟨?_, h2⟩
  unfold Acc
  rw [List.length_set, ← flat_set hl hx hj hy]
  exact h1
/-- Where the cells of element p lie. -/
theorem Acc.cells_at {α : Type} {w : World} {lo sz : Nat} {e : TypeId} {v : Value} {xs : List α} {cells : α → List Value} (h : Acc w lo e sz v xs cells) (hl : ∀ y, (cells y).length = sz) {p : Nat} {x : α} (hx : xs[p]? = some x) :
    ∃ g c, v = .slice (some ⟨g, 0, none⟩) xs.length c ∧ lo ≤ g ∧ g < w.heap.size ∧ (∀ j u, (cells x)[j]? = some u → w.cell? ⟨g, p * sz + j, none⟩ = some u) ∧ ∀ o, w.frozen? ⟨g, o, none⟩ = false := by
  have hp := (List.getElem?_eq_some_iff.1 hx).1
  obtain ⟨A, c, rfl, hc, hO⟩ := h.own hl
  obtain ⟨g, T, rfl, h1, h2, hP⟩ := hO.2 (by omega)
  exact ⟨g, c, rfl, h1, h2, fun j u hu => hP.at_ hp hx hu, fun o => hP.frozen o⟩

end Go.Proofs.Ytmjdgplkcocgmaa

/-
  A slice of integers that the call makes, and then appends to or writes in.
-/
set_option linter.unusedVariables false
namespace Go.Proofs.Ytmjdgplkcocgmaa
open Go.RowKit

theorem infoIntA : (Try.prog.info? 3).map (fun i => (i.zero, i.size, i.bytes)) = some (some (.int .i64 0), 1, 8) := by kernel_rfl

theorem flat_ints (xs : List Int) : xs.flatMap intC = xs.map (Value.int .i64) := by
  induction xs with
  | nil => rfl
  | cons x xs ih => rw [List.flatMap_cons, ih]; rfl
theorem Acc.ints_made (w : World) (lo : Nat) (e : TypeId) (n : Nat) (hn : n ≤ maxLen) (h : lo ≤ w.heap.size) {g : Nat} (hg : g = w.heap.size) :
    Acc (w.alloc (.cells (madeCells #[Value.int .i64 0] n) e)) lo e 1 (.slice (some ⟨g, 0, none⟩) n n) (List.replicate n (0 : Int)) intC := by
  subst hg
  have := World.ownsRow_lit (base := lo) (e := e) (size := 1) w (madeCells #[Value.int .i64 0] n) n h hn (by rw [size_madeCells]; omega)
  rw [toList_madeCells_one] at this
  unfold Acc
  rw [List.length_replicate, flat_ints, List.map_replicate]
  exact this
/-- The element at index p, as a cell. -/
theorem Acc.int_at {w : World} {lo : Nat} {e : TypeId} {v : Value} {d : List Int} (h : Acc w lo e 1 v d intC) {p : Nat} (hp : p < d.length) :
    ∃ g c, v = .slice (some ⟨g, 0, none⟩) d.length c ∧ lo ≤ g ∧ g < w.heap.size ∧ w.cell? ⟨g, p, none⟩ = some (.int .i64 (d.getD p 0)) ∧ w.frozen? ⟨g, p, none⟩ = false := by
  obtain ⟨A, c, rfl, hc, hO⟩ := h.own (fun _ => rfl)
  obtain ⟨g, T, rfl, h1, h2, hP⟩ := hO.2 (by omega)
  exact ⟨g, c, rfl, h1, h2, hP.int_at rfl hp, hP.frozen _⟩

end Go.Proofs.Ytmjdgplkcocgmaa

/-
  append of one element at a step of a region that draws its order.
-/
set_option linter.unusedVariables false
namespace Go.Proofs.Ytmjdgplkcocgmaa
open Go.RowKit

theorem cell_keep {w : World} {a : Addr} {u : Value} (h : w.cell? a = some u) (o : Obj) : ((w.alloc o).drew).cell? a = some u := keepcell h ((Below.refl _ _).alloc (Nat.le_refl _) o).drew
theorem cell_far {w w1 w2 : World} {a : Addr} {u : Value} {o : Obj} {row : Option Nat} (hw : w1 = (w.alloc o).drew) (hg : w1.grownBy w2 row) (h : w.cell? a = some u) (hne : some a.block ≠ row) : w2.cell? a = some u := by
  subst hw
  rw [hg.cell_far a (Nat.lt_of_lt_of_le (block_lt_of_cell h) (by simp [World.drew])) hne]
  exact cell_keep h o
theorem cell_same {w w1 w2 : World} {g j : Nat} {u : Value} {o : Obj} (hw : w1 = (w.alloc o).drew) (hk : w2.cell? ⟨g, j, none⟩ = w1.cell? ⟨g, j, none⟩) (h : w.cell? ⟨g, j, none⟩ = some u) : w2.cell? ⟨g, j, none⟩ = some u := by
  subst hw
  rw [hk]
  exact cell_keep h o

/-- What an append leaves in the old row. -/
theorem append_keeps {P : Program} {w w' : World} {v' : Value} {t ty e : TypeId} {i : TypeInfo} {z : Value} {lo sz n : Nat} {xs : List Value} {v : Value} (ht : P.underlying t = some (.slice e)) (hi : P.info? e = some i) (hz : i.zero = some z) (hsize : i.size = sz)
    (hown : w.ownsRow lo e sz v n xs) (a : Addr) (m c : Nat) (news : List Value) (hl : news.length = m * sz) (hnews : ∀ j u, news[j]? = some u → w.cell? (a.add j) = some u) (h1 : ∀ u ∈ news, u.oneCell' = true)
    (h63 : n + m ≤ maxLen) (hbytes : (n + m) * i.bytes ≤ 140737488355328) (hr : (Builtin.append_ #[t, t] ty #[v, .slice (some a) m c]).run P w = .ok v' w') :
    ∀ g, v.ownBlock = some g → ∀ j, j < n * sz → w'.cell? ⟨g, j, none⟩ = w.cell? ⟨g, j, none⟩ := by
  subst hsize
  intro g hg j hj
  rcases hown.2 with ⟨rfl, rfl⟩ | ⟨g', cap, cur, rfl, hbg, hgg, hnc, hcm, hcs, htake⟩
  · cases hg
  · have : g' = g := by simpa [Value.ownBlock] using hg
    subst this
    have hsmall : n + m ≤ 9223372036854775807 := by simp only [maxLen] at h63; omega
    by_cases hroom : n + m ≤ cap
    · have hfit : n * i.size + news.length ≤ cur.size := by rw [hl, hcs, ← Nat.add_mul]; exact Nat.mul_le_mul_right _ hroom
      have hr2 := run_append_room (P := P) w t ty e i ht hi g' n cap cur hgg a m c news hl hnews h1 hroom hfit
      rw [hr2] at hr
      injection hr with _ hw
      subst hw
      rw [cell_of_row _ _ _ _ _ _ (setRow_heap w g' cur _ e _ hgg), cell_of_row _ _ _ _ _ _ hgg]
      have hlt : j < (cur.toList.take (n * i.size)).length := by rw [List.length_take, Array.length_toList]; omega
      rw [List.getElem?_toArray, List.append_assoc, List.getElem?_append_left hlt, List.getElem?_take, if_pos hj]
      simp
    · have holds : ∀ j u, xs[j]? = some u → w.cell? ((⟨g', 0, none⟩ : Addr).add j) = some u := hown.cells (g := g') rfl
      have hr2 := run_append_grow (P := P) w t ty e i z ht hi hz ⟨g', 0, none⟩ n cap xs hown.1 holds a m c news hl hnews (by omega) (by omega) (growslice_fits (by omega) hbytes)
      rw [hr2] at hr
      injection hr with _ hw
      subst hw
      exact World.cell?_of_block (a := ⟨g', j, none⟩) (heap_alloc_old w.drew _ (heap_lt hgg))

theorem run_acc1 {α : Type} {P : Program} {w : World} (t ty : TypeId) (lo : Nat) (e : TypeId) (z : Value) (sz bytes : Nat) (ht : P.underlying t = some (.slice e)) (hinfo : (P.info? e).map (fun i => (i.zero, i.size, i.bytes)) = some (some z, sz, bytes))
    (hzs : z.cells.size = sz) (hsz : 0 < sz) (v : Value) (xs : List α) (cells : α → List Value) (y : α) (hacc : Acc w lo e sz v xs cells)
    (b : Nat) (cs : Array Value) (T' : TypeId) (fr : Nat × Nat) (hb : w.heap[b]? = some (.cells cs T' fr)) (hcs : cs.toList = cells y) (hl : (cells y).length = sz) (h1 : ∀ u ∈ cells y, u.oneCell' = true)
    (h63 : xs.length + 1 ≤ 4294967296) (hby : bytes ≤ 1024) (hlo : lo ≤ w.heap.size) :
    ∃ v' w', (Builtin.append_ #[t, t] ty #[v, .slice (some ⟨b, 0, none⟩) 1 1]).run P w = .ok v' w' ∧ Acc w' lo e sz v' (xs ++ [y]) cells ∧ w.grownBy w' v.ownBlock ∧ (v'.ownBlock = v.ownBlock ∨ v'.ownBlock = some w.heap.size) ∧
      ∀ g, v.ownBlock = some g → ∀ j, j < xs.length * sz → w'.cell? ⟨g, j, none⟩ = w.cell? ⟨g, j, none⟩ := by
  obtain ⟨i, hi, hzz⟩ := Option.map_eq_some_iff.1 hinfo
  simp only [Prod.mk.injEq] at hzz
  obtain ⟨hz, hsi, hbi⟩ := hzz
  have hnews : ∀ j u, (cells y)[j]? = some u → w.cell? ((⟨b, 0, none⟩ : Addr).add j) = some u := by
    intro j u hu
    rw [add_form, Nat.zero_add]
    have : w.cell? ⟨b, j, none⟩ = cs[j]? := by simp [World.cell?, hb]
    rw [this, ← Array.getElem?_toList, hcs]
    exact hu
  have hbytes : (xs.length + 1) * bytes ≤ 140737488355328 := by
    have : (xs.length + 1) * bytes ≤ 4294967296 * 1024 := Nat.mul_le_mul h63 hby
    omega
  have hm : xs.length + 1 ≤ maxLen := by unfold maxLen; omega
  obtain ⟨v', w', hr, h2, h3, _, h5⟩ := run_append_own_at (P := P) w lo t ty e i z sz bytes ht hi hz hsi hbi hzs hsz v xs.length (xs.flatMap cells) hacc ⟨b, 0, none⟩ 1 1 (cells y) (by omega) hnews h1 hm hbytes hlo
  refine ⟨v', w', hr, ?_, h3, h5, append_keeps ht hi hz hsi hacc ⟨b, 0, none⟩ 1 1 (cells y) (by omega) hnews h1 hm (by rw [hbi]; exact hbytes) hr⟩
  show w'.ownsRow lo e sz _ (xs ++ [y]).length ((xs ++ [y]).flatMap cells)
  simpa using h2

theorem step_acc1 {α : Type} {P : Program} {w : World} {ops : Array Oper} {o : Oper} {a : Act} {K : Act → World → Prop} {Q : Exit → Act → World → Prop} {E : Prop} (hgd : o.guard = none) (s x : Operand) (t : TypeId)
    (ho : o.op = .call { callee := .builtin .append, args := #[s, x], argTypes := #[t, t] })
    (lo : Nat) (e : TypeId) (z : Value) (sz bytes : Nat) (ht : P.underlying t = some (.slice e)) (hinfo : (P.info? e).map (fun i => (i.zero, i.size, i.bytes)) = some (some z, sz, bytes))
    (hzs : z.cells.size = sz) (hsz : 0 < sz) (v : Value) (xs : List α) (cells : α → List Value) (y : α) (hs : a.eval s = v) (hacc : Acc w lo e sz v xs cells)
    (b : Nat) (cs : Array Value) (T' : TypeId) (fr : Nat × Nat) (hb : w.heap[b]? = some (.cells cs T' fr)) (hcs : cs.toList = cells y) (hx : a.eval x = .slice (some ⟨b, 0, none⟩) 1 1) (hl : (cells y).length = sz) (h1 : ∀ u ∈ cells y, u.oneCell' = true)
    (h63 : xs.length + 1 ≤ 4294967296) (hby : bytes ≤ 1024) (hlo : lo ≤ w.heap.size) (H : Nat) (hH : w.heap.size = H)
    (h : ∀ v' w', Acc w' lo e sz v' (xs ++ [y]) cells → w.grownBy w' v.ownBlock → (v'.ownBlock = v.ownBlock ∨ v'.ownBlock = some H) → (∀ g, v.ownBlock = some g → ∀ j, j < xs.length * sz → w'.cell? ⟨g, j, none⟩ = w.cell? ⟨g, j, none⟩) → K (a.put o.dst v') w') :
    if Region.wanted o (yielded ops a.tmps) = true then Oper.wp P o a w K Q else E := by
  obtain ⟨v', w', hr, h2, h3, h4, h5⟩ := run_acc1 (P := P) t o.type lo e z sz bytes ht hinfo hzs hsz v xs cells y hacc b cs T' fr hb hcs hl h1 h63 hby hlo
  rw [if_pos (by simp [Region.wanted, hgd])]
  unfold Oper.wp execOp
  simp only [ho, resolve, invoke, builtin, Sem.run_bind, Sem.run_pure, Result.andThen_ok, List.map_toArray, List.map_cons, List.map_nil, hs, hx, hr]
  exact h v' w' h2 h3 (hH ▸ h4) h5

end Go.Proofs.Ytmjdgplkcocgmaa

/-
  A cell behind all that a row held, when that row grows.
-/
set_option linter.unusedVariables false
namespace Go.Proofs.Ytmjdgplkcocgmaa
open Go.RowKit

theorem far_of {α : Type} {w w1 w3 : World} {lo sz : Nat} {e : TypeId} {v : Value} {xs : List α} {cells : α → List Value} (hacc : Acc w lo e sz v xs cells) (hg : w1.grownBy w3 v.ownBlock) {a : Addr} {u : Value} (h : w1.cell? a = some u)
    (hlt : w.heap.size ≤ a.block) : w3.cell? a = some u :=
  (World.cell?_of_block (hg.block a.block (block_lt_of_cell h) (fun e' => by have := (hacc.row e'.symm).2; omega))).trans h
/-- A cell ahead of all that a row may hold. -/
theorem near_of {α : Type} {w w1 w3 : World} {lo sz : Nat} {e : TypeId} {v : Value} {xs : List α} {cells : α → List Value} (hacc : Acc w lo e sz v xs cells) (hg : w1.grownBy w3 v.ownBlock) {a : Addr} {u : Value} (h : w1.cell? a = some u)
    (hlt : a.block < lo) : w3.cell? a = some u :=
  (World.cell?_of_block (hg.block a.block (block_lt_of_cell h) (fun e' => by have := (hacc.row e'.symm).1; omega))).trans h

end Go.Proofs.Ytmjdgplkcocgmaa

/-
  Slices of slices of one-cell elements: read (RdSS), and in blocks of the call's own (RowsP, OwnSS).
-/
set_option linter.unusedVariables false
namespace Go.Proofs.Ytmjdgplkcocgmaa
open Go.RowKit

/-- The header of a row. -/
structure Hd where
  A : Option Addr
  n : Nat
  c : Nat
instance : Inhabited Hd := ⟨⟨none, 0, 0⟩⟩
def hdC (h : Hd) : List Value := [.slice h.A h.n h.c]
theorem hdC_len (h : Hd) : (hdC h).length = 1 := rfl

def RdSS {α : Type} (w : World) (A : Option Addr) (n : Nat) (rows : List (List α)) (cells : α → List Value) : Prop :=
  rows.length = n ∧ ∃ hs : List Hd, Rd w A n 1 hs hdC ∧ ∀ (i : Nat) (h : Hd) (r : List α), hs[i]? = some h → rows[i]? = some r → h.n ≤ h.c ∧ Rd w h.A h.n 1 r cells

/-- Where the rows lie: each in a block of its own. -/
def RowsP {α : Type} (w : World) (lo hi : Nat) (hs : List Hd) (rows : List (List α)) (cells : α → List Value) : Prop :=
  hs.length = rows.length ∧ (∀ (i : Nat) (h : Hd) (r : List α), hs[i]? = some h → rows[i]? = some r → h.n ≤ h.c ∧ Own w lo hi h.A h.n 1 r cells) ∧
    ∀ (i j : Nat) (h k : Hd) (a b : Addr), hs[i]? = some h → hs[j]? = some k → i ≠ j → h.A = some a → k.A = some b → 0 < h.n → 0 < k.n → a.block ≠ b.block
/-- Block g is none of the rows'. -/
def Off (g : Nat) (hs : List Hd) : Prop := ∀ (i : Nat) (h : Hd) (a : Addr), hs[i]? = some h → h.A = some a → 0 < h.n → a.block ≠ g

def OwnSS {α : Type} (w : World) (lo hi : Nat) (A : Option Addr) (n : Nat) (rows : List (List α)) (cells : α → List Value) : Prop :=
  rows.length = n ∧ ∃ hs : List Hd, Own w lo hi A n 1 hs hdC ∧ RowsP w lo hi hs rows cells ∧ ∀ a, A = some a → 0 < n → Off a.block hs

section
variable {α : Type} {w w' : World} {lo hi : Nat} {A : Option Addr} {n : Nat} {rows : List (List α)} {cells : α → List Value} {hs : List Hd}

theorem RdSS.len (h : RdSS w A n rows cells) : rows.length = n := h.1
theorem RdSS.below (h : RdSS w A n rows cells) (hb : Below w.heap.size w w') : RdSS w' A n rows cells := by
  obtain ⟨h1, hs, h2, h3⟩ := h
  exact ⟨h1, hs, h2.below hb, fun i k r hk hr => ⟨(h3 i k r hk hr).1, (h3 i k r hk hr).2.below hb⟩⟩
theorem RdSS.at_ (h : RdSS w A n rows cells) {k : Nat} (hk : k < n) (hb : Below w.heap.size w w') :
    ∃ b off A' n' c' r, A = some ⟨b, off, none⟩ ∧ b < w.heap.size ∧ rows[k]? = some r ∧ w'.cell? ⟨b, off + k, none⟩ = some (.slice A' n' c') ∧ n' ≤ c' ∧ r.length = n' ∧ Rd w' A' n' 1 r cells := by
  obtain ⟨h1, hs, h2, h3⟩ := h
  obtain ⟨b, off, x, e, hlt, hx, hc⟩ := h2.at1 (v := fun h : Hd => .slice h.A h.n h.c) hk hb
  have hr : rows[k]? = some (rows[k]'(by omega)) := List.getElem?_eq_getElem (by omega)
  obtain ⟨h4, h5⟩ := h3 k x _ hx hr
  exact ⟨b, off, x.A, x.n, x.c, _, e, hlt, hr, hc, h4, h5.len, h5.below hb⟩

theorem Own.only' {sz : Nat} {xs : List α} (h : Own w lo hi A n sz xs cells) {l u : Nat} (ho : Only l u w w') (hd : ∀ g : Nat, A = some ⟨g, 0, none⟩ → 0 < n → g < l ∨ u ≤ g) : Own w' lo hi A n sz xs cells :=
  ⟨h.1, fun hn => by
    obtain ⟨g, T, e, h1, h2, hp⟩ := h.2 hn
    exact ⟨g, T, e, h1, h2, hp.block (ho.block g hp.lt (hd g e hn))⟩⟩
/-- The one block that an owned slice lies in. -/
theorem Own.exact {sz : Nat} {xs : List α} (h : Own w lo hi A n sz xs cells) : ∃ l u, Own w l u A n sz xs cells ∧ (∀ a, A = some a → 0 < n → l = a.block ∧ u = a.block + 1 ∧ lo ≤ l ∧ u ≤ hi) ∧ (n = 0 → l = lo ∧ u = lo) := by
  rcases Nat.eq_zero_or_pos n with hn | hn
  · refine ⟨lo, lo, ⟨h.1, fun h' => absurd h' (by omega)⟩, fun a _ h' => absurd h' (by omega), fun _ => ⟨rfl, rfl⟩⟩
  · obtain ⟨g, T, e, h1, h2, hp⟩ := h.2 hn
    refine ⟨g, g + 1, ⟨h.1, fun _ => ⟨g, T, e, Nat.le_refl _, by omega, hp⟩⟩, fun a ha _ => ?_, fun h' => by omega⟩
    rw [e] at ha
    injection ha with ha
    subst ha
    exact ⟨rfl, rfl, h1, by omega⟩

theorem RowsP.below (h : RowsP w lo hi hs rows cells) (hb : Below w.heap.size w w') : RowsP w' lo hi hs rows cells :=
  ⟨h.1, fun i k r hk hr => ⟨(h.2.1 i k r hk hr).1, (h.2.1 i k r hk hr).2.below hb⟩, h.2.2⟩
theorem RowsP.only (h : RowsP w lo hi hs rows cells) {l u : Nat} (ho : Only l u w w') (hd : hi ≤ l ∨ u ≤ lo) : RowsP w' lo hi hs rows cells :=
  ⟨h.1, fun i k r hk hr => ⟨(h.2.1 i k r hk hr).1, (h.2.1 i k r hk hr).2.only ho hd⟩, h.2.2⟩
theorem RowsP.mono (h : RowsP w lo hi hs rows cells) {lo' hi' : Nat} (h1 : lo' ≤ lo) (h2 : hi ≤ hi') : RowsP w lo' hi' hs rows cells :=
  ⟨h.1, fun i k r hk hr => ⟨(h.2.1 i k r hk hr).1, (h.2.1 i k r hk hr).2.mono h1 h2⟩, h.2.2⟩
/-- A block that grows, or is written, and is none of the rows' (it lies outside [lo, hi), or Off says so). -/
theorem RowsP.off (h : RowsP w lo hi hs rows cells) {g : Nat} (ho : Only g (g + 1) w w') (hd : Off g hs) : RowsP w' lo hi hs rows cells :=
  ⟨h.1, fun i k r hk hr => ⟨(h.2.1 i k r hk hr).1, (h.2.1 i k r hk hr).2.only' ho (fun g' e hn => by have := hd i k _ hk e hn; simp at this; omega)⟩, h.2.2⟩
theorem RowsP.nil (w : World) (lo hi : Nat) (cells : α → List Value) : RowsP w lo hi [] [] cells := ⟨rfl, fun i h r hk => by simp at hk, fun i j h k a b hk => by simp at hk⟩
theorem Off.nil (g : Nat) : Off g [] := fun i h a hk => by simp at hk
/-- A new row behind the others. -/
theorem RowsP.push {mid : Nat} (h : RowsP w lo mid hs rows cells) {x : Hd} {r : List α} (hc : x.n ≤ x.c) (ho : Own w mid hi x.A x.n 1 r cells) (h1 : lo ≤ mid) (h2 : mid ≤ hi) : RowsP w lo hi (hs ++ [x]) (rows ++ [r]) cells := by
  have lt : ∀ (i : Nat) (h' : Hd) (a : Addr), hs[i]? = some h' → h'.A = some a → 0 < h'.n → a.block < mid := fun i h' a hi' ha hn => by
    have hil : i < hs.length := (List.getElem?_eq_some_iff.1 hi').1
    have hr : rows[i]? = some (rows[i]'(by rw [← h.1]; exact hil)) := List.getElem?_eq_getElem _
    obtain ⟨g, T, e, _, hg, _⟩ := (h.2.1 i h' _ hi' hr).2.2 hn
    rw [ha] at e
    injection e with e
    subst e
    exact hg
  have ge : ∀ a, x.A = some a → 0 < x.n → mid ≤ a.block := fun a ha hn => by
    obtain ⟨g, T, e, hg, _⟩ := ho.2 hn
    rw [ha] at e
    injection e with e
    subst e
    exact hg
  have look : ∀ (i : Nat) (h' : Hd), (hs ++ [x])[i]? = some h' → (i < hs.length ∧ hs[i]? = some h') ∨ (i = hs.length ∧ h' = x) := fun i h' hi' => by
    by_cases hl : i < hs.length
    · rw [List.getElem?_append_left hl] at hi'
      exact .inl ⟨hl, hi'⟩
    · rw [List.getElem?_append_right (by omega)] at hi'
      have : i - hs.length = 0 := by
        by_cases e : i - hs.length = 0
        · exact e
        · rw [List.getElem?_eq_none (by simp; omega)] at hi'; cases hi'
      rw [this] at hi'
      simp at hi'
      exact .inr ⟨by omega, hi'.symm⟩
  refine ⟨by simp [h.1], fun i h' r' hi' hr' => ?_, fun i j h' k a b hi' hj' hne ha hb hn hm => ?_⟩
  · rcases look i h' hi' with ⟨hl, h3⟩ | ⟨rfl, rfl⟩
    · rw [List.getElem?_append_left (by rw [← h.1]; exact hl)] at hr'
      exact ⟨(h.2.1 i h' r' h3 hr').1, (h.2.1 i h' r' h3 hr').2.mono (Nat.le_refl _) h2⟩
    · rw [List.getElem?_append_right (by rw [← h.1]; exact Nat.le_refl _), ← h.1, Nat.sub_self] at hr'
      simp at hr'
      subst hr'
      exact ⟨hc, ho.mono h1 (Nat.le_refl _)⟩
  · rcases look i h' hi' with ⟨hl, h3⟩ | ⟨rfl, rfl⟩ <;> rcases look j k hj' with ⟨hl', h4⟩ | ⟨e, rfl⟩
    · exact h.2.2 i j h' k a b h3 h4 hne ha hb hn hm
    · have := lt i h' a h3 ha hn
      have := ge b hb hm
      omega
    · have := lt j k b h4 hb hm
      have := ge a ha hn
      omega
    · exact absurd e.symm hne
theorem Off.push {g mid hi' : Nat} (h : Off g hs) {x : Hd} {r : List α} (ho : Own w mid hi' x.A x.n 1 r cells) (hg : g < mid ∨ hi' ≤ g) : Off g (hs ++ [x]) := by
  intro i h' a hi' ha hn
  by_cases hl : i < hs.length
  · rw [List.getElem?_append_left hl] at hi'
    exact h i h' a hi' ha hn
  · rw [List.getElem?_append_right (by omega)] at hi'
    have : i - hs.length = 0 := by
      by_cases e : i - hs.length = 0
      · exact e
      · rw [List.getElem?_eq_none (by simp; omega)] at hi'; cases hi'
    rw [this] at hi'
    simp at hi'
    subst hi'
    obtain ⟨g', T, e, h1, h2, _⟩ := ho.2 hn
    rw [ha] at e
    injection e with e
    subst e
    simp
    omega
theorem RowsP.off_of {g : Nat} (h : RowsP w lo hi hs rows cells) (hg : g < lo ∨ hi ≤ g) : Off g hs := fun i h' a hi' ha hn => by
  have hil : i < hs.length := (List.getElem?_eq_some_iff.1 hi').1
  have hr : rows[i]? = some (rows[i]'(by rw [← h.1]; exact hil)) := List.getElem?_eq_getElem _
  obtain ⟨g', T, e, h1, h2, _⟩ := (h.2.1 i h' _ hi' hr).2.2 hn
  rw [ha] at e
  injection e with e
  subst e
  simp
  omega

theorem Only.all {l u lo' hi' : Nat} (ho : Only l u w w') (e : l = u) : Only lo' hi' w w' := ⟨ho.os, ho.tape, ho.output, ho.size, fun k hk _ => ho.block k hk (by omega)⟩
/-- One row is written. -/
theorem RowsP.set (h : RowsP w lo hi hs rows cells) {k : Nat} {x : Hd} {r' : List α} (hx : hs[k]? = some x) {l u : Nat} (ho : Only l u w w')
    (hloc : ∀ a, x.A = some a → 0 < x.n → l = a.block ∧ u = a.block + 1 ∧ lo ≤ l ∧ u ≤ hi) (hz : x.n = 0 → l = u) (hown : Own w' l u x.A x.n 1 r' cells) : RowsP w' lo hi hs (rows.set k r') cells := by
  refine ⟨by simp [h.1], fun i y r hy hr => ?_, h.2.2⟩
  rw [List.getElem?_set] at hr
  by_cases e : k = i
  · subst e
    rw [hx] at hy
    injection hy with hy
    subst hy
    rw [if_pos rfl] at hr
    have hkl : k < rows.length := by rw [← h.1]; exact (List.getElem?_eq_some_iff.1 hx).1
    rw [if_pos hkl] at hr
    injection hr with hr
    subst hr
    have hr0 : rows[k]? = some (rows[k]'hkl) := List.getElem?_eq_getElem _
    refine ⟨(h.2.1 k x _ hx hr0).1, hown.1, fun hn => ?_⟩
    obtain ⟨g, T, e, h1, h2, h3⟩ := hown.2 hn
    have := hloc _ e hn
    exact ⟨g, T, e, by omega, by omega, h3⟩
  · rw [if_neg e] at hr
    obtain ⟨h1, h2⟩ := h.2.1 i y r hy hr
    refine ⟨h1, h2.only' ho (fun g hg hn => ?_)⟩
    rcases Nat.eq_zero_or_pos x.n with hxn | hxn
    · have := hz hxn
      omega
    · obtain ⟨g', T, e', _⟩ := hown.2 hxn
      have h4 := hloc _ e' hxn
      have h5 := h.2.2 k i x y _ _ hx hy e e' hg hxn hn
      simp at h4 h5
      omega

theorem OwnSS.len (h : OwnSS w lo hi A n rows cells) : rows.length = n := h.1
theorem OwnSS.rd (h : OwnSS w lo hi A n rows cells) : RdSS w A n rows cells := by
  obtain ⟨h1, hs, h2, h3, _⟩ := h
  exact ⟨h1, hs, h2.rd, fun i k r hk hr => ⟨(h3.2.1 i k r hk hr).1, (h3.2.1 i k r hk hr).2.rd⟩⟩
theorem OwnSS.below (h : OwnSS w lo hi A n rows cells) (hb : Below w.heap.size w w') : OwnSS w' lo hi A n rows cells := by
  obtain ⟨h1, hs, h2, h3, h4⟩ := h
  exact ⟨h1, hs, h2.below hb, h3.below hb, h4⟩
theorem OwnSS.only (h : OwnSS w lo hi A n rows cells) {l u : Nat} (ho : Only l u w w') (hd : hi ≤ l ∨ u ≤ lo) : OwnSS w' lo hi A n rows cells := by
  obtain ⟨h1, hs, h2, h3, h4⟩ := h
  exact ⟨h1, hs, h2.only ho hd, h3.only ho hd, h4⟩
theorem OwnSS.mono (h : OwnSS w lo hi A n rows cells) {lo' hi' : Nat} (h1 : lo' ≤ lo) (h2 : hi ≤ hi') : OwnSS w lo' hi' A n rows cells := by
  obtain ⟨h3, hs, h4, h5, h6⟩ := h
  exact ⟨h3, hs, h4.mono h1 h2, h5.mono h1 h2, h6⟩
theorem OwnSS.nil (w : World) (lo hi : Nat) (A : Option Addr) (cells : α → List Value) : OwnSS w lo hi A 0 [] cells :=
  ⟨rfl, [], Own.nil _ _ _ _ _ _, RowsP.nil _ _ _ _, fun a _ h => absurd h (by omega)⟩
end

/-- What a function leaves that makes a new slice of slices. -/
def MadeSS {α : Type} (W : World) (n : Nat) (rows : List (List α)) (cells : α → List Value) (e : Ending) (w' : World) : Prop :=
  ∃ A c, e = .returned (.slice A n c) ∧ n ≤ c ∧ OwnSS w' W.heap.size w'.heap.size A n rows cells ∧ Below W.heap.size W w'

/-! ### A list of which the first k have been replaced -/
def mixed {α : Type} (M R : List α) (k : Nat) : List α := M.take k ++ R.drop k
theorem mixed_zero {α : Type} (M R : List α) : mixed M R 0 = R := by simp [mixed]
theorem mixed_end {α : Type} {M R : List α} {k : Nat} (hM : M.length = k) (hR : R.length = k) : mixed M R k = M := by
  unfold mixed
  rw [List.take_of_length_le (by omega), List.drop_eq_nil_of_le (by omega), List.append_nil]
theorem mixed_succ {α : Type} {M R : List α} {k : Nat} {r : α} (hr : M[k]? = some r) (hl : k < R.length) : (mixed M R k).set k r = mixed M R (k + 1) := by
  have hk : k < M.length := (List.getElem?_eq_some_iff.1 hr).1
  unfold mixed
  have h1 : (M.take k).length = k := by rw [List.length_take]; omega
  rw [List.set_append_right _ _ (by omega), h1, Nat.sub_self, List.take_add_one, hr, List.drop_eq_getElem_cons hl, List.set_cons_zero, List.append_assoc]
  rfl

/-! ### Lengths -/
def lens {α : Type} (rows : List (List α)) : Nat := (rows.map List.length).sum
theorem lens_take_succ {α : Type} {rows : List (List α)} {k : Nat} {r : List α} (h : rows[k]? = some r) : lens (rows.take (k + 1)) = lens (rows.take k) + r.length := by
  unfold lens
  rw [List.take_add_one, h]
  simp
theorem lens_take_le {α : Type} (rows : List (List α)) (k : Nat) : lens (rows.take k) ≤ lens rows := by
  have h : lens rows = lens (rows.take k) + lens (rows.drop k) := by
    conv => lhs; rw [← List.take_append_drop k rows]
    unfold lens
    rw [List.map_append, List.sum_append]
  omega
theorem lens_at {α : Type} {rows : List (List α)} {k : Nat} {r : List α} (h : rows[k]? = some r) : lens (rows.take k) + r.length ≤ lens rows := by
  have := lens_take_le rows (k + 1)
  rw [lens_take_succ h] at this
  exact this
/-- what the law file's count of sizes leaves, of a slice of slices -/
def szLeftSS {α : Type} (l : Int) (rows : List (List α)) : Int := if l - (rows.length : Int) - (lens rows : Int) < 0 then -1 else l - (rows.length : Int) - (lens rows : Int)
theorem szLeftSS_cases {α : Type} (l : Int) (rows : List (List α)) : (l < (rows.length : Int) + (lens rows : Int) ∧ szLeftSS l rows = -1) ∨ ((rows.length : Int) + (lens rows : Int) ≤ l ∧ szLeftSS l rows = l - (rows.length : Int) - (lens rows : Int)) := by
  unfold szLeftSS
  by_cases h : l - (rows.length : Int) - (lens rows : Int) < 0
  · rw [if_pos h]; exact .inl ⟨by omega, rfl⟩
  · rw [if_neg h]; exact .inr ⟨by omega, rfl⟩

end Go.Proofs.Ytmjdgplkcocgmaa

/-
  A slice of slices that the call itself builds, a row at a time.
-/
set_option linter.unusedVariables false
namespace Go.Proofs.Ytmjdgplkcocgmaa
open Go.RowKit

section
variable {α : Type} {w w' : World} {lo hi : Nat} {rows : List (List α)} {cells : α → List Value} {hs : List Hd}

/-- The block of the value v holds none of the rows. -/
def Apart (v : Value) (hs : List Hd) : Prop := ∀ g, v.ownBlock = some g → Off g hs
theorem RowsP.app {v : Value} (h : RowsP w lo hi hs rows cells) (hg : w.grownBy w' v.ownBlock) (hd : Apart v hs) : RowsP w' lo hi hs rows cells :=
  ⟨h.1, fun i k r hk hr => ⟨(h.2.1 i k r hk hr).1, by
    obtain ⟨hl, ho⟩ := (h.2.1 i k r hk hr).2
    refine ⟨hl, fun hn => ?_⟩
    obtain ⟨g, T, e, h1, h2, hp⟩ := ho hn
    exact ⟨g, T, e, h1, h2, hp.block (hg.block g hp.lt (fun e' => hd g e'.symm i k ⟨g, 0, none⟩ hk e hn rfl))⟩⟩, h.2.2⟩
theorem Apart.push {v : Value} {mid hi' : Nat} (h : Apart v hs) {x : Hd} {r : List α} (ho : Own w mid hi' x.A x.n 1 r cells) (hv : ∀ g, v.ownBlock = some g → g < mid) : Apart v (hs ++ [x]) :=
  fun g hg => (h g hg).push ho (.inl (hv g hg))
theorem Apart.next {v v' : Value} {g : Nat} (h : Apart v hs) (hat : v'.ownBlock = v.ownBlock ∨ v'.ownBlock = some g) (hr : RowsP w lo hi hs rows cells) (hg : hi ≤ g) : Apart v' hs := by
  intro k hk
  rcases hat with e | e
  · exact h k (e ▸ hk)
  · rw [e] at hk
    injection hk with hk
    subst hk
    exact hr.off_of (.inr hg)
theorem Apart.nil (v : Value) : Apart v [] := fun g _ => Off.nil g
theorem Acc.madeSS {W : World} {e : TypeId} {v : Value} (h : Acc w' W.heap.size e 1 v hs hdC) (hr : RowsP w' W.heap.size w'.heap.size hs rows cells) (hd : Apart v hs) (hb : Below W.heap.size W w') {n : Nat} (hn : rows.length = n) : MadeSS W n rows cells (.returned v) w' := by
  have hl : hs.length = n := by rw [hr.1, hn]
  obtain ⟨A, c, rfl, hc, ho⟩ := h.own hdC_len
  rw [hl] at hc ho ⊢
  refine ⟨A, c, rfl, hc, ⟨hn, hs, ho, hr, fun a ha hp => ?_⟩, hb⟩
  obtain ⟨g, T, e1, _⟩ := ho.2 hp
  rw [e1] at ha
  injection ha with ha
  subst ha
  subst e1
  exact hd g rfl
end

end Go.Proofs.Ytmjdgplkcocgmaa

/-
  Rows that the call may each append to; no two of them lie in one block.
-/
set_option linter.unusedVariables false
namespace Go.Proofs.Ytmjdgplkcocgmaa
open Go.RowKit

def hdV (h : Hd) : Value := .slice h.A h.n h.c
/-- The values v and d do not lie in one block. -/
def Dis (v d : Value) : Prop := ∀ g, v.ownBlock = some g → d.ownBlock ≠ some g
theorem Dis.symm {v d : Value} (h : Dis v d) : Dis d v := fun g hg e => h g e hg
theorem Dis.left {v v1 d : Value} {g : Nat} (h : Dis v d) (hat : v1.ownBlock = v.ownBlock ∨ v1.ownBlock = some g) (hd : ∀ k, d.ownBlock = some k → k < g) : Dis v1 d := by
  intro k hk e
  rcases hat with h1 | h1
  · exact h k (h1 ▸ hk) e
  · rw [h1] at hk
    injection hk with hk
    have := hd k e
    omega
theorem Dis.right {v d d1 : Value} {g : Nat} (h : Dis v d) (hat : d1.ownBlock = d.ownBlock ∨ d1.ownBlock = some g) (hd : ∀ k, v.ownBlock = some k → k < g) : Dis v d1 := (h.symm.left hat hd).symm
theorem Dis.new {v d : Value} {g : Nat} (hv : ∀ k, v.ownBlock = some k → k < g) (hd : d.ownBlock = some g) : Dis v d := by
  intro k hk e
  rw [hd] at e
  injection e with e
  have := hv k hk
  omega
def DisAll (v : Value) (hs : List Hd) : Prop := ∀ (i : Nat) (h : Hd), hs[i]? = some h → Dis v (hdV h)

section
variable {α : Type} {w w' : World} {lo : Nat} {e : TypeId} {hs : List Hd} {rows : List (List α)} {cells : α → List Value}

def RowsA (w : World) (lo : Nat) (e : TypeId) (hs : List Hd) (rows : List (List α)) (cells : α → List Value) : Prop :=
  hs.length = rows.length ∧ (∀ (i : Nat) (h : Hd) (r : List α), hs[i]? = some h → rows[i]? = some r → h.n = r.length ∧ Acc w lo e 1 (hdV h) r cells) ∧
    ∀ (i j : Nat) (h k : Hd), hs[i]? = some h → hs[j]? = some k → i ≠ j → Dis (hdV h) (hdV k)
theorem push_look {x y : α} {l : List α} {i : Nat} (h : (l ++ [x])[i]? = some y) : l[i]? = some y ∨ (i = l.length ∧ y = x) := by
  by_cases hl : i < l.length
  · rw [List.getElem?_append_left hl] at h
    exact .inl h
  · have hlt := (List.getElem?_eq_some_iff.1 h).1
    rw [List.length_append, List.length_singleton] at hlt
    obtain rfl : i = l.length := by omega
    rw [List.getElem?_append_right (Nat.le_refl _), Nat.sub_self] at h
    simp at h
    exact .inr ⟨rfl, h.symm⟩
theorem RowsA.nil (w : World) (lo : Nat) (e : TypeId) (cells : α → List Value) : RowsA w lo e [] [] cells := ⟨rfl, fun i h r hk => by simp at hk, fun i j h k hk => by simp at hk⟩
theorem DisAll.nil (v : Value) : DisAll v [] := fun i h hk => by simp at hk
theorem RowsA.row (h : RowsA w lo e hs rows cells) {i : Nat} {x : Hd} (hx : hs[i]? = some x) : ∃ r, rows[i]? = some r ∧ x.n = r.length ∧ Acc w lo e 1 (hdV x) r cells := by
  have hr : rows[i]? = some (rows[i]'(by rw [← h.1]; exact (List.getElem?_eq_some_iff.1 hx).1)) := List.getElem?_eq_getElem _
  exact ⟨_, hr, h.2.1 i x _ hx hr⟩
theorem RowsA.lt (h : RowsA w lo e hs rows cells) {i : Nat} {x : Hd} (hx : hs[i]? = some x) : ∀ k, (hdV x).ownBlock = some k → k < w.heap.size := fun k hk => by
  obtain ⟨r, _, _, ha⟩ := h.row hx
  exact (ha.row hk).2
theorem RowsA.below (h : RowsA w lo e hs rows cells) (hb : Below w.heap.size w w') : RowsA w' lo e hs rows cells :=
  ⟨h.1, fun i x r hx hr => ⟨(h.2.1 i x r hx hr).1, (h.2.1 i x r hx hr).2.below hb⟩, h.2.2⟩
theorem RowsA.kept (h : RowsA w lo e hs rows cells) {v : Value} (hg : w.grownBy w' v.ownBlock) (hd : DisAll v hs) : RowsA w' lo e hs rows cells :=
  ⟨h.1, fun i x r hx hr => ⟨(h.2.1 i x r hx hr).1, (h.2.1 i x r hx hr).2.kept hg fun g hg' e' => hd i x hx g e' hg'⟩, h.2.2⟩
theorem RowsA.push (h : RowsA w lo e hs rows cells) {x : Hd} {r : List α} (hn : x.n = r.length) (ha : Acc w lo e 1 (hdV x) r cells) (hd : DisAll (hdV x) hs) : RowsA w lo e (hs ++ [x]) (rows ++ [r]) cells := by
  refine ⟨by simp [h.1], fun i y s hy hs' => ?_, fun i j y z hy hz hne => ?_⟩
  · rcases push_look hy with h1 | ⟨rfl, rfl⟩
    · have hi := (List.getElem?_eq_some_iff.1 h1).1
      rw [List.getElem?_append_left (by rw [← h.1]; exact hi)] at hs'
      exact h.2.1 i y s h1 hs'
    · rw [h.1, List.getElem?_append_right (Nat.le_refl _), Nat.sub_self] at hs'
      simp at hs'
      subst hs'
      exact ⟨hn, ha⟩
  · rcases push_look hy with h1 | ⟨h1, rfl⟩ <;> rcases push_look hz with h2 | ⟨h2, rfl⟩
    · exact h.2.2 i j y z h1 h2 hne
    · exact (hd i y h1).symm
    · exact hd j z h2
    · omega
theorem DisAll.push {v : Value} (h : DisAll v hs) {x : Hd} (hx : Dis v (hdV x)) : DisAll v (hs ++ [x]) := fun i y hy => by
  rcases push_look hy with h1 | ⟨rfl, rfl⟩
  · exact h i y h1
  · exact hx
theorem DisAll.next {v v1 : Value} {g : Nat} (h : DisAll v hs) (hat : v1.ownBlock = v.ownBlock ∨ v1.ownBlock = some g) (hd : ∀ (i : Nat) (x : Hd), hs[i]? = some x → ∀ k, (hdV x).ownBlock = some k → k < g) : DisAll v1 hs :=
  fun i x hx => (h i x hx).left hat (hd i x hx)
theorem set_look {l : List α} {p i : Nat} {x y : α} (h : (l.set p x)[i]? = some y) : (i ≠ p ∧ l[i]? = some y) ∨ (i = p ∧ y = x) := by
  rw [List.getElem?_set] at h
  by_cases e : p = i
  · subst e
    rw [if_pos rfl] at h
    split at h
    · injection h with h
      exact .inr ⟨rfl, h.symm⟩
    · cases h
  · rw [if_neg e] at h
    exact .inl ⟨fun h' => e h'.symm, h⟩
theorem RowsA.set (h : RowsA w lo e hs rows cells) {p : Nat} {x x' : Hd} {r' : List α} (hx : hs[p]? = some x) (hg : w.grownBy w' (hdV x).ownBlock) (hn : x'.n = r'.length) (ha : Acc w' lo e 1 (hdV x') r' cells) {G : Nat}
    (hat : (hdV x').ownBlock = (hdV x).ownBlock ∨ (hdV x').ownBlock = some G) (hG : w.heap.size ≤ G) : RowsA w' lo e (hs.set p x') (rows.set p r') cells := by
  have hlt : ∀ (i : Nat) (y : Hd), hs[i]? = some y → ∀ k, (hdV y).ownBlock = some k → k < G := fun i y hy k hk => by have := h.lt hy k hk; omega
  refine ⟨by simp [h.1], fun i y s hy hs' => ?_, fun i j y z hy hz hne => ?_⟩
  · rcases set_look hy with ⟨h1, h2⟩ | ⟨rfl, rfl⟩
    · rw [List.getElem?_set, if_neg (fun e => h1 e.symm)] at hs'
      obtain ⟨h3, h4⟩ := h.2.1 i y s h2 hs'
      exact ⟨h3, h4.kept hg fun g hg' e' => h.2.2 p i x y hx h2 (fun e => h1 e.symm) g e' hg'⟩
    · rcases set_look hs' with ⟨h1, _⟩ | ⟨_, rfl⟩
      · exact absurd rfl h1
      · exact ⟨hn, ha⟩
  · rcases set_look hy with ⟨h1, h2⟩ | ⟨rfl, rfl⟩ <;> rcases set_look hz with ⟨h3, h4⟩ | ⟨h3, rfl⟩
    · exact h.2.2 i j y z h2 h4 hne
    · subst h3
      exact (h.2.2 i j y x h2 hx hne).right hat (hlt i y h2)
    · exact (h.2.2 i j x z hx h4 hne).left hat (hlt j z h4)
    · omega
theorem DisAll.set {v : Value} (h : DisAll v hs) {p : Nat} {x' : Hd} (hx : Dis v (hdV x')) : DisAll v (hs.set p x') := fun i y hy => by
  rcases set_look hy with ⟨_, h1⟩ | ⟨_, rfl⟩
  · exact h i y h1
  · exact hx
theorem RowsA.rowsP (h : RowsA w lo e hs rows cells) (hl : ∀ y, (cells y).length = 1) : RowsP w lo w.heap.size hs rows cells := by
  refine ⟨h.1, fun i x r hx hr => ?_, fun i j x y a b hx hy hne ha hb _ _ e => ?_⟩
  · obtain ⟨h1, h2⟩ := h.2.1 i x r hx hr
    obtain ⟨A, c, h3, h4, h5⟩ := h2.own hl
    unfold hdV at h3
    injection h3 with h3 h6 h7
    rw [h3, h1, h7]
    exact ⟨h4, h5⟩
  · refine h.2.2 i j x y hx hy hne a.block ?_ ?_
    · unfold hdV; rw [ha]; rfl
    · unfold hdV; rw [hb, e]; rfl
theorem DisAll.apart {v : Value} (h : DisAll v hs) : Apart v hs := fun g hg i x a hx ha _ e => h i x hx g hg (by unfold hdV; rw [ha, ← e]; rfl)
end

end Go.Proofs.Ytmjdgplkcocgmaa

/-
  A map[int]bool that the call makes: which numbers are marked.
-/
set_option linter.unusedVariables false
namespace Go.Proofs.Ytmjdgplkcocgmaa
open Go.RowKit Go.Maps

theorem keyInt : Keyed Try.prog 3 := int_keyed Try.underlying3
theorem zeroBool (w : World) : (zeroValue 4).run Try.prog w = .ok (.bool false) w := by kernel_rfl

theorem plainElem_bool_inv {H : Type} {P : Program} {e : TypeId} (he : P.underlying e = some .bool) {v : Value} {z : DataW H × List MemPlace} (h : plainElem P e v = some z) : ∃ x, v = .bool x ∧ z = (.lit (.bool x), []) := by
  unfold plainElem at h
  rw [he] at h
  cases v <;> simp at h
  exact ⟨_, rfl, h.symm⟩

/-- Block b is a map of at most n entries; number p is marked just if u has true at p. -/
def Marked (w : World) (b n : Nat) (u : List Bool) : Prop :=
  ∃ D : DataW Unit, w.ownsMap Try.prog 3 (plainElem Try.prog 4) b n D ∧ IsMap D ∧ ∀ p : Nat, D.atKey (.int .i64 p) (.lit (.bool false)) = .lit (.bool (u.getD p false))

theorem Marked.made (w : World) (m : Nat) : Marked (w.alloc (.map #[] 0)) w.heap.size 0 (List.replicate m false) :=
  ⟨_, World.ownsMap_made _ _ _ _, ⟨_, rfl⟩, fun p => by
    rw [List.getD_eq_getElem?_getD, List.getElem?_replicate]
    show DataW.lit (.bool false) = _
    split <;> rfl⟩
theorem Marked.below {w w' : World} {b n : Nat} {u : List Bool} (h : Marked w b n u) (hb : Below w.heap.size w w') : Marked w' b n u := by
  obtain ⟨D, ⟨es, clock, h1, F, hs, hD⟩, h2, h3⟩ := h
  exact ⟨D, ⟨es, clock, (hb.block b (heap_lt h1)).trans h1, F, hs, hD⟩, h2, h3⟩
theorem Marked.lt {w : World} {b n : Nat} {u : List Bool} (h : Marked w b n u) : b < w.heap.size := by
  obtain ⟨D, ⟨es, clock, h1, _⟩, _⟩ := h
  exact heap_lt h1
theorem Marked.look {w : World} {b n : Nat} {u : List Bool} (h : Marked w b n u) (p : Nat) (hp : p ≤ 8388608) : (Instr.lookup 121 (.map (some b)) (.int .i64 p) false).run Try.prog w = .ok (.bool (u.getD p false)) w := by
  obtain ⟨D, h1, h2, h3⟩ := h
  obtain ⟨v, ps, hrun, hv⟩ := h1.lookup keyInt Try.underlying121 (zeroBool w) (plainElem_bool Try.underlying4 false) (keyOf_int_mk Try.underlying3 (WalkArith.wf_i64 (n := (p : Int)) (by omega)))
  obtain ⟨x, rfl, hx⟩ := plainElem_bool_inv Try.underlying4 hv
  rw [h3] at hx
  simp only [Prod.mk.injEq, DataW.lit.injEq, Lit.bool.injEq] at hx
  rw [hrun, hx.1]

theorem Marked.update {w : World} {b n : Nat} {u : List Bool} (hown : Marked w b n u) (hn : n ≤ 8388608) {p : Nat} (hp : p < u.length) (hpl : p ≤ 8388608) :
    ∃ w', (Instr.mapUpdate 121 (.map (some b)) (.int .i64 p) (.bool true)).run Try.prog w = .ok () w' ∧ Marked w' b (n + 1) (u.set p true) ∧ w.grownBy w' (some b) := by
  obtain ⟨D, h1, h2, h3⟩ := hown
  obtain ⟨w', hrun, hown1, hgrow1⟩ := h1.update keyInt Try.underlying121 (by unfold maxLen; omega) (keyOf_int_mk Try.underlying3 (WalkArith.wf_i64 (n := (p : Int)) (by omega))) (plainElem_bool Try.underlying4 true)
  refine ⟨w', hrun, ⟨_, hown1, ?_, fun q => ?_⟩, hgrow1⟩
  · obtain ⟨es, rfl⟩ := h2
    exact ⟨_, rfl⟩
  · rw [List.getD_eq_getElem?_getD, List.getElem?_set]
    by_cases e : p = q
    · subst e
      rw [if_pos rfl, if_pos hp, atKey_put_same h2 (by trivial)]; rfl
    · rw [if_neg e, atKey_put_other (by intro h; injection h; omega), h3, List.getD_eq_getElem?_getD]

theorem step_mark {w : World} {ops : Array Oper} {o : Oper} {a : Act} {K : Act → World → Prop} {Q : Exit → Act → World → Prop} {E : Prop}
    (hg : o.guard = none) (m x v : Operand) (hop : o.op = Op.mapUpdate 121 m x v) (b n : Nat) (u : List Bool) (p : Nat)
    (hm : a.eval m = .map (some b)) (hown : Marked w b n u) (hn : n ≤ 8388608) (hp : p < u.length) (hpl : p ≤ 8388608) (hx : a.eval x = .int .i64 p) (hv : a.eval v = .bool true)
    (hK : ∀ w', Marked w' b (n + 1) (u.set p true) → w.grownBy w' (some b) → K (a.put o.dst undef) w') :
    if Region.wanted o (yielded ops a.tmps) = true then Oper.wp Try.prog o a w K Q else E := by
  obtain ⟨w', hrun, h1, h2⟩ := hown.update hn hp hpl
  rw [if_pos (by simp [Region.wanted, hg])]
  unfold Oper.wp
  simp [execOp, hop, hm, hx, hv, hrun, Result.andThen]
  exact hK w' h1 h2

end Go.Proofs.Ytmjdgplkcocgmaa

/-
  A row of flags that the call makes and writes in.
-/
set_option linter.unusedVariables false
namespace Go.Proofs.Ytmjdgplkcocgmaa
open Go.RowKit

theorem infoBoolR : (Try.prog.info? 4).map (fun i => (i.zero, i.size, i.bytes)) = some (some (.bool false), 1, 1) := by kernel_rfl

/-- Block g holds the flags d, one a cell, none frozen. -/
def Flags (w : World) (g : Nat) (d : List Bool) : Prop := ∃ (c : Array Value) (T : TypeId), w.heap[g]? = some (.cells c T (0, 0)) ∧ ∀ p : Nat, p < d.length → c[p]? = some (.bool (d.getD p false))
theorem Flags.made (w : World) (T : TypeId) (n : Nat) : Flags (w.alloc (.cells (madeCells #[Value.bool false] n) T)) w.heap.size (List.replicate n false) :=
  ⟨_, T, heap_alloc_new w _, fun p hp => by
    rw [List.length_replicate] at hp
    have h1 : (List.replicate n false).getD p false = false := by
      rw [List.getD_eq_getElem?_getD, List.getElem?_replicate]
      split <;> rfl
    rw [h1]
    simp [madeCells, hp, Nat.mod_one]⟩
theorem Flags.lt {w : World} {g : Nat} {d : List Bool} (h : Flags w g d) : g < w.heap.size := by
  obtain ⟨c, T, hc, _⟩ := h
  exact heap_lt hc
theorem Flags.cell {w : World} {g : Nat} {d : List Bool} (h : Flags w g d) {p : Nat} (hp : p < d.length) : w.cell? ⟨g, p, none⟩ = some (.bool (d.getD p false)) := by
  obtain ⟨c, T, hc, hx⟩ := h
  rw [cell_of_row w g _ c T (0, 0) hc]
  exact hx p hp
theorem Flags.frozen {w : World} {g : Nat} {d : List Bool} (h : Flags w g d) (p : Nat) : w.frozen? ⟨g, p, none⟩ = false := by
  obtain ⟨c, T, hc, hx⟩ := h
  exact frozen_of_row w g p c T hc
theorem Flags.below {w w' : World} {g : Nat} {d : List Bool} (h : Flags w g d) (hb : Below w.heap.size w w') : Flags w' g d := by
  obtain ⟨c, T, hc, hx⟩ := h
  exact ⟨c, T, (hb.block g (heap_lt hc)).trans hc, hx⟩
theorem Flags.grow {w w' : World} {g : Nat} {d : List Bool} (h : Flags w g d) {row : Option Nat} (hg : w.grownBy w' row) (hne : some g ≠ row) : Flags w' g d := by
  obtain ⟨c, T, hc, hx⟩ := h
  exact ⟨c, T, (hg.block g (heap_lt hc) hne).trans hc, hx⟩
theorem Flags.set {w : World} {g : Nat} {d : List Bool} (h : Flags w g d) {p : Nat} (hp : p < d.length) (z : Bool) : Flags (w.setCell ⟨g, p, none⟩ (.bool z)) g (d.set p z) := by
  obtain ⟨c, T, hc, hx⟩ := h
  have hpc : p < c.size := (Array.getElem?_eq_some_iff.1 (hx p hp)).1
  refine ⟨c.setIfInBounds p (.bool z), T, by simp [World.setCell, Array.getElem?_modify, hc], fun q hq => ?_⟩
  rw [List.length_set] at hq
  rw [Array.getElem?_setIfInBounds, List.getD_eq_getElem?_getD, List.getElem?_set]
  by_cases e : p = q
  · subst e
    rw [if_pos rfl, if_pos hpc, if_pos rfl, if_pos hp]; rfl
  · rw [if_neg e, if_neg e, hx q hq, List.getD_eq_getElem?_getD]

end Go.Proofs.Ytmjdgplkcocgmaa

/-
  append(out, src...) of integers: what is only read is copied behind what is built.
-/
set_option linter.unusedVariables false
namespace Go.Proofs.Ytmjdgplkcocgmaa
open Go.RowKit

theorem run_append_nilI {P : Program} {w : World} (base : Nat) (t ty e : TypeId) (i : TypeInfo) (size c : Nat) (ht : P.underlying t = some (.slice e)) (hi : P.info? e = some i)
    (v : Value) (n : Nat) (xs : List Value) (hown : w.ownsRow base e size v n xs) :
    (Builtin.append_ #[t, t] ty #[v, .slice none 0 c]).run P w = .ok v w := by
  rcases hown.2 with ⟨rfl, rfl⟩ | ⟨g, cap, cur, rfl, _, _, hnc, _⟩
  · simp [Builtin.append_, run_underlying ht, sizeOf, typeInfo, hi, Builtin.lenOf, Builtin.firstCells]
  · simp [Builtin.append_, run_underlying ht, sizeOf, typeInfo, hi, Builtin.lenOf, Builtin.firstCells, hnc, storeCells]

theorem wpList_accsI {P : Program} {w : World} {ops : Array Oper} {rest : List Oper} {o : Oper} {a : Act} {Q : Exit → Act → World → Prop} (hgd : o.guard = none) (s x : Operand) (t : TypeId)
    (ho : o.op = .call { callee := .builtin .append, args := #[s, x], argTypes := #[t, t] })
    (lo : Nat) (e : TypeId) (ht : P.underlying t = some (.slice e)) (hinfo : (P.info? e).map (fun i => (i.zero, i.size, i.bytes)) = some (some (.int .i64 0), 1, 8))
    (v : Value) (xs ys : List Int) (hs : a.eval s = v) (hacc : Acc w lo e 1 v xs intC) (A : Option Addr) (n c : Nat) (hx : a.eval x = .slice A n c) (hR : Rd w A n 1 ys intC)
    (h63 : xs.length + n ≤ 4294967296) (hlo : lo ≤ w.heap.size)
    (h : ∀ v' w', Acc w' lo e 1 v' (xs ++ ys) intC → w.grownBy w' v.ownBlock → (v'.ownBlock = v.ownBlock ∨ v'.ownBlock = some w.heap.size) → wpList P ops Q rest (a.put o.dst v') w') :
    wpList P ops Q (o :: rest) a w := by
  obtain ⟨i, hi, hzz⟩ := Option.map_eq_some_iff.1 hinfo
  simp only [Prod.mk.injEq] at hzz
  obtain ⟨hz, hsi, hbi⟩ := hzz
  have hlen := hR.len
  cases A with
  | none =>
    have hn0 : n = 0 := by
      rcases Nat.eq_zero_or_pos n with e1 | e1
      · exact e1
      · obtain ⟨b, off, x, e2, _⟩ := hR.at1 (v := (Value.int .i64)) e1 (Below.refl _ _)
        cases e2
    subst hn0
    have hy : ys = [] := List.eq_nil_of_length_eq_zero hlen
    subst hy
    refine wpList_plain hgd fun K hK => ?_
    have hrun := run_append_nilI (P := P) (w := w) lo t o.type e i 1 c ht hi v _ _ hacc
    unfold Oper.wp
    simp [execOp, ho, resolve, invoke, builtin, hs, hx, hrun, Result.andThen]
    refine hK _ _ (h v w (by simpa using hacc) (World.grownBy.refl _ _) (.inl rfl))
  | some ad =>
    refine wpList_append_own_at w hgd s x t ho lo e i (.int .i64 0) 1 8 ht hi hz hsi hbi rfl (by decide) v xs.length (xs.flatMap intC) hs hacc ad n c (ys.flatMap intC) hx ?_ ?_ ?_ (by unfold maxLen; omega) (by omega) hlo ?_
    · rw [flat_ints, List.length_map, hlen, Nat.mul_one]
    · intro j u hu
      rw [flat_ints, List.getElem?_map] at hu
      obtain ⟨y, hy, rfl⟩ := Option.map_eq_some_iff.1 hu
      have hj : j < n := by rw [← hlen]; exact (List.getElem?_eq_some_iff.1 hy).1
      obtain ⟨b, off, x, e2, _, hx', hc⟩ := hR.at1 (v := (Value.int .i64)) hj (Below.refl _ _)
      injection e2 with e2
      subst e2
      rw [hy] at hx'
      injection hx' with hx'
      subst hx'
      rw [add_form]
      exact hc
    · intro u hu
      rw [flat_ints] at hu
      obtain ⟨y, _, rfl⟩ := List.mem_map.1 hu
      rfl
    · intro v' w' hown hgrow _ hat
      refine h v' w' ?_ hgrow hat
      show w'.ownsRow lo e 1 v' (xs ++ ys).length ((xs ++ ys).flatMap intC)
      rw [List.length_append, hlen, List.flatMap_append]
      exact hown

end Go.Proofs.Ytmjdgplkcocgmaa

/-
  A region that draws its order: one operation taken first, by hand (an operation whose guard says no is passed over).
-/
set_option linter.unusedVariables false
namespace Go.Proofs.Ytmjdgplkcocgmaa
open Go.RowKit

section
variable {P : Program} {ops : Array Oper} {Q : Exit → Act → World → Prop} {md : Region.Mode} {S : World → Prop} {fuel : Nat} {listed : Array Bool} {a : Act} {w : World} {oi : Oper}
theorem take_no {i : Nat} {d : Option Tmp} (hi : ops[i]? = some oi) (hd : oi.dst = d) (hs : Region.noSelect ops = true) (hf : Region.free md ops listed i = true) (hr : (Region.ready md ops listed).contains i = true)
    (hw : Region.wanted oi (yielded ops a.tmps) = false) (hQ : ∀ c a w, Q (.panic c) (a.put d undef) w → Q (.panic c) a w) (hS : S w)
    (h : wpAnyH P md ops Q S fuel (listed.setIfInBounds i true) (a.put d undef) w) : wpAnyH P md ops Q S (fuel + 1) listed a w := by
  subst hd
  exact wpAnyH_take hi hs hf hr hQ (.inr ⟨hw, rfl⟩) hS h
theorem take_yes {i : Nat} {d : Option Tmp} {v : Value} (hi : ops[i]? = some oi) (hd : oi.dst = d) (hs : Region.noSelect ops = true) (hf : Region.free md ops listed i = true) (hr : (Region.ready md ops listed).contains i = true)
    (hw : Region.wanted oi (yielded ops a.tmps) = true) (hQ : ∀ c a w, Q (.panic c) (a.put d v) w → Q (.panic c) a w) (hv : ∀ w, S w → (execOp a.eval oi).run P w = .ok (.value v) w) (hS : S w)
    (h : wpAnyH P md ops Q S fuel (listed.setIfInBounds i true) (a.put d v) w) : wpAnyH P md ops Q S (fuel + 1) listed a w := by
  subst hd
  exact wpAnyH_take hi hs hf hr hQ (.inl ⟨hw, hv⟩) hS h
end

end Go.Proofs.Ytmjdgplkcocgmaa

/-
  append of a whole slice at a step of a region that draws its order.
-/
set_option linter.unusedVariables false
namespace Go.Proofs.Ytmjdgplkcocgmaa
open Go.RowKit

theorem step_accs {α : Type} {P : Program} {w : World} {ops : Array Oper} {o : Oper} {a : Act} {K : Act → World → Prop} {Q : Exit → Act → World → Prop} {E : Prop} (hgd : o.guard = none) (s x : Operand) (t : TypeId)
    (ho : o.op = .call { callee := .builtin .append, args := #[s, x], argTypes := #[t, t] })
    (lo : Nat) (e : TypeId) (z : Value) (sz bytes : Nat) (ht : P.underlying t = some (.slice e)) (hinfo : (P.info? e).map (fun i => (i.zero, i.size, i.bytes)) = some (some z, sz, bytes))
    (hzs : z.cells.size = sz) (hsz : 0 < sz) (v : Value) (xs ys : List α) (cells : α → List Value) (hl : ∀ y, (cells y).length = sz) (h1 : ∀ y, ∀ u ∈ cells y, u.oneCell' = true) (hs : a.eval s = v) (hacc : Acc w lo e sz v xs cells)
    (ad : Addr) (n c : Nat) (hx : a.eval x = .slice (some ad) n c) (hR : Rd w (some ad) n sz ys cells) (hn : 0 < n) (h63 : xs.length + n ≤ 4294967296) (hby : bytes ≤ 1024) (hlo : lo ≤ w.heap.size) (H : Nat) (hH : w.heap.size = H)
    (h : ∀ A' c' w', Acc w' lo e sz (.slice A' (xs.length + n) c') (xs ++ ys) cells → w.grownBy w' v.ownBlock → K (a.put o.dst (.slice A' (xs.length + n) c')) w') :
    if Region.wanted o (yielded ops a.tmps) = true then Oper.wp P o a w K Q else E := by
  obtain ⟨i, hi, hzz⟩ := Option.map_eq_some_iff.1 hinfo
  simp only [Prod.mk.injEq] at hzz
  obtain ⟨hz, hsi, hbi⟩ := hzz
  have hlen := hR.len
  refine step_append_lies (w := w) hgd s x t ho lo e i z sz bytes ht hi hz hsi hbi hzs hsz v xs.length (xs.flatMap cells) hs hacc ad n c (ys.flatMap cells) hx (by rw [flat_len hl, hlen]) ?_ ?_ hn (by unfold maxLen; omega) ?_ hlo H hH ?_
  · intro j u hu
    obtain ⟨i', y, k, hy, hk, rfl⟩ := flat_inv hl hu
    have hj : i' < n := by rw [← hlen]; exact (List.getElem?_eq_some_iff.1 hy).1
    obtain ⟨b, off, x, e2, _, hx', hc⟩ := hR.at_ hj
    injection e2 with e2
    subst e2
    rw [hy] at hx'
    injection hx' with hx'
    subst hx'
    rw [add_form]
    exact hc k u hk
  · intro u hu
    obtain ⟨y, _, hy⟩ := List.mem_flatMap.1 hu
    exact h1 y u hy
  · have : (xs.length + n) * bytes ≤ 4294967296 * 1024 := Nat.mul_le_mul h63 hby
    omega
  · intro g cap w' hown hgrow _ _
    refine h (some ⟨g, 0, none⟩) cap w' ?_ hgrow
    show w'.ownsRow lo e sz _ (xs ++ ys).length ((xs ++ ys).flatMap cells)
    rw [List.length_append, hlen, List.flatMap_append]
    exact hown

end Go.Proofs.Ytmjdgplkcocgmaa

/-
  Lists of Int: how the law file copies, compares, marks and asks them.
-/
set_option linter.unusedVariables false
namespace Go.Proofs.Ytmjdgplkcocgmaa
open Go.RowKit

theorem Rd.int {w w' : World} {A : Option Addr} {n : Nat} {xs : List Int} (h : Rd w A n 1 xs intC) {k : Nat} (hk : k < n) (hb : Below w.heap.size w w') :
    ∃ b off x, A = some ⟨b, off, none⟩ ∧ b < w.heap.size ∧ xs[k]? = some x ∧ w'.cell? ⟨b, off + k, none⟩ = some (.int .i64 x) := by
  obtain ⟨b, off, x, e, hlt, hx, hc⟩ := h.at_ hk
  have hw : ∀ j u, (intC x)[j]? = some u → w'.cell? ⟨b, off + (k * 1 + j), none⟩ = some u := fun j u hu => (hb.cell (p := ⟨b, _, none⟩) hlt).trans (hc j u hu)
  exact ⟨b, off, x, e, hlt, hx, by simpa using hw 0 _ rfl⟩

theorem intC_len (x : Int) : (intC x).length = 1 := rfl

theorem eqIntS_any (A B : Option Addr) (n c d : Nat) (xs : List Int) (W : World) (h : Rd W A n 1 xs intC) (h' : Rd W B n 1 xs intC) (hn : n ≤ 1048576) :
    Calls Try.prog 75 #[.slice A n c, .slice B n d] W fun e w' => e = .returned (.bool true) ∧ Below W.heap.size W w' := by
  go_enter Try.func75, Try.ntmps75
  go_wp2
  go_loopw [5] (fun i wr => ∃ k : Nat, k ≤ n ∧ i = .int .i64 k ∧ Below W.heap.size W wr) (fun i _ => n - (intOf i).toNat)
  case atStart => exact ⟨0, Nat.zero_le _, rfl, Below.refl _ _⟩
  case round =>
    obtain ⟨k, hk, rfl, hB⟩ := hrel
    have hz := hB.size
    by_cases hlt : k < n
    · obtain ⟨b, off, x, rfl, hbW, hx, h0⟩ := h.int hlt hB
      obtain ⟨b', off', x', rfl, hbW', hx', g0⟩ := h'.int hlt hB
      obtain rfl : x = x' := by rw [hx] at hx'; injection hx'
      clear hx hx' h h'
      go_wp2
      go_quiet (fail)
      go_wp2
      go_roundw
      case rel => exact ⟨k + 1, by omega, by go_num, by (repeat (first | exact Below.refl _ _ | assumption | (refine Below.drew ?_) | (refine below_drewN ?_ _) | (refine Below.alloc ?_ (by first | exact Nat.le_refl _ | (simp; done) | (simp; omega) | omega) _) | (refine Below.setCell ?_ (by first | exact Nat.le_refl _ | (simp; done) | (simp; omega) | omega) _) | (refine Below.trans ?_ (Below.mono (by assumption) (by first | exact Nat.le_refl _ | (simp; done) | (simp; omega) | omega)))))⟩
      case measure => simp [intOf]; omega
    · go_wp2
      go_ret
      exact ⟨rfl, by (repeat (first | exact Below.refl _ _ | assumption | (refine Below.drew ?_) | (refine below_drewN ?_ _) | (refine Below.alloc ?_ (by first | exact Nat.le_refl _ | (simp; done) | (simp; omega) | omega) _) | (refine Below.setCell ?_ (by first | exact Nat.le_refl _ | (simp; done) | (simp; omega) | omega) _) | (refine Below.trans ?_ (Below.mono (by assumption) (by first | exact Nat.le_refl _ | (simp; done) | (simp; omega) | omega)))))⟩

def markIntSAt (k : Int) (i : Nat) : Int := k + (i : Int)
def marksIntS (k : Int) (n : Nat) : List Int := (List.range n).map (markIntSAt k)
theorem marksIntS_len (k : Int) (n : Nat) : (marksIntS k n).length = n := by simp [marksIntS]
theorem marksIntS_at {k : Int} {n i : Nat} (h : i < n) : (marksIntS k n)[i]? = some (markIntSAt k i) := by simp [marksIntS, h]

theorem markIntS_any (A : Option Addr) (n c lo hi : Nat) (q : Int) (xs : List Int) (W : World) (h : Own W lo hi A n 1 xs intC) (hn : n ≤ 4194304) (hq : 0 ≤ q) (hq2 : q ≤ 1000000000) :
    Calls Try.prog 78 #[.slice A n c, .int .i64 q] W fun e w' => e = .returned (.int .i64 (q + (n : Int))) ∧ Own w' lo hi A n 1 (marksIntS q n) intC ∧ Only lo hi W w' := by
  by_cases hn0 : n = 0
  · subst hn0
    go_enter Try.func78, Try.ntmps78
    go_wp2
    go_loop [1, 5] (fun s i => s = .int .i64 q ∧ i = .int .i64 0) (fun _ i => (intOf i).toNat)
    case atStart => exact ⟨rfl, rfl⟩
    case round =>
      obtain ⟨rfl, rfl⟩ := hrel
      go_wp2
      go_ret
      exact ⟨ret_i (by omega), ⟨rfl, fun hh => absurd hh (by omega)⟩, Only.refl _ _ _⟩
  · obtain ⟨g, T, rfl, hlo, hhi, hP0⟩ := h.2 (by omega)
    have hP1 := hP0.zero (marksIntS q n) intC
    clear hP0 h
    go_enter Try.func78, Try.ntmps78
    go_wp2
    go_loopw [1, 5] (fun s i wr => ∃ k : Nat, k ≤ n ∧ i = .int .i64 k ∧ s = .int .i64 (q + (k : Int)) ∧ W.grownBy wr (some g) ∧ Part wr g T n 1 (marksIntS q n) intC k) (fun _ i _ => n - (intOf i).toNat)
    case atStart => exact ⟨0, Nat.zero_le _, rfl, by simp, World.grownBy.refl _ _, hP1⟩
    case round =>
      obtain ⟨k, hk, rfl, rfl, hB, hP⟩ := hrel
      by_cases hlt : k < n
      · have hglt := hP.lt
        obtain ⟨v0, hv0⟩ := hP.cell (o := k) (by omega)
        have hp0 : wr.frozen? ⟨g, k, none⟩ = false := hP.frozen _
        go_wp2
        go_roundw
        case rel =>
          have hst := hP.store (marksIntS_at hlt) intC_len hlt
          have hon := only_setRow hB (k * 1) (intC (markIntSAt q k))
          simp only [intC, markIntSAt, setRow, Nat.mul_one] at hst hon
          refine ⟨k + 1, by omega, by go_num, num_eq (by omega), ?_, ?_⟩
          · exact hon
          · exact hst
        case measure => simp [intOf]; omega
      · go_wp2
        go_ret
        obtain rfl : k = n := by omega
        exact ⟨rfl, ⟨marksIntS_len _ _, fun _ => ⟨g, T, rfl, hlo, hhi, hP⟩⟩, Only.of_row hB hlo hhi⟩

theorem heldIntS_any (A : Option Addr) (n c : Nat) (q : Int) (W : World) (h : Rd W A n 1 (marksIntS q n) intC) (hn : n ≤ 4194304) (hq : 0 ≤ q) (hq2 : q ≤ 1000000000) :
    Calls Try.prog 79 #[.slice A n c, .int .i64 q] W fun e w' => e = .returned (.int .i64 (q + (n : Int))) ∧ W = w' := by
  go_enter Try.func79, Try.ntmps79
  go_wp2
  go_loop [1, 5] (fun s i => ∃ k : Nat, k ≤ n ∧ i = .int .i64 k ∧ s = .int .i64 (q + (k : Int))) (fun _ i => n - (intOf i).toNat)
  case atStart => exact ⟨0, Nat.zero_le _, rfl, by simp⟩
  case round =>
    obtain ⟨k, hk, rfl, rfl⟩ := hrel
    by_cases hlt : k < n
    · obtain ⟨b, off, x, rfl, hbW, hx, h0⟩ := h.int hlt (Below.refl _ _)
      rw [marksIntS_at hlt] at hx
      injection hx with hx
      subst hx
      simp only [markIntSAt] at h0
      go_wp2
      go_round
      case rel => exact ⟨k + 1, by omega, by go_num, num_eq (by omega)⟩
      case measure => simp [intOf]; omega
    · go_wp2
      go_ret
      obtain rfl : k = n := by omega
      exact ⟨rfl, rfl⟩

end Go.Proofs.Ytmjdgplkcocgmaa

/-
  How a law's argument is opened: what comes in as data is read as a list of flat elements.
-/
set_option linter.unusedVariables false
namespace Go.Proofs.Ytmjdgplkcocgmaa
open Go.RowKit Go.ChangeShapes Go.WideShapes Go.Deep Go.Joins

section
variable {H : Type} {enc : TypeId × Value → H} {P : Program} {w : World} {spare : Nat → Bool} {held : Bool}

/-- From 'each element has a typed form' to one typed list. -/
theorem typed {α : Type} [Inhabited α] {n : Nat} {p : Nat → α → Prop} (h : ∀ i, i < n → ∃ x, p i x) : ∃ xs : List α, xs.length = n ∧ ∀ (i : Nat) (x : α), xs[i]? = some x → p i x := by
  obtain ⟨f, hf⟩ := choose_lt h
  refine ⟨(List.range n).map f, by simp, fun i x hx => ?_⟩
  rw [List.getElem?_map] at hx
  by_cases hi : i < n
  · rw [List.getElem?_range hi] at hx
    simp at hx
    subst hx
    exact hf i hi
  · rw [List.getElem?_eq_none (by simpa using hi)] at hx
    simp at hx

/-- A slice whose elements are flat structs. -/
theorem open_rd {α : Type} [Inhabited α] (cells : α → List Value) {t e : TypeId} {sz : Nat} {v : Value} {d : DataW H} {p : List MemPlace} {r : Reach} {b0 : Nat}
    (ht : P.underlying t = some (.slice e)) (hC : P.cellsOf e = sz) (hsz : 0 < sz)
    (hdec : ∀ (n : Nat) (cs : List Value) (y : DataW H × List MemPlace), DataW.trod enc P w 0 spare held n e cs = some y → ∃ x, cells x = cs)
    (hv : Value.okWide P w r b0 t v) (h : DataW.Trod enc P w 0 spare held t v d p) :
    ∃ A n c xs, v = .slice A n c ∧ n ≤ c ∧ c ≤ maxLen ∧ Rd w A n sz (xs : List α) cells := by
  obtain ⟨a0, len, cap, rfl⟩ := okWide_slice ht hv
  obtain ⟨fuel, hf⟩ := h
  rcases open_slice ht hf with ⟨hcs, _⟩ | ⟨a, l, c, m, n, D, Pl, hcs, _, hl, hm, hmm, _, hx⟩
  · simp [Value.cells] at hcs
    obtain ⟨rfl, rfl, rfl⟩ := hcs
    exact ⟨none, 0, 0, [], rfl, Nat.le_refl _, Nat.zero_le _, Rd.nil _ _ _ _⟩
  · simp [Value.cells] at hcs
    obtain ⟨rfl, rfl, rfl⟩ := hcs
    have hlm : len ≤ m := by rw [hmm]; split <;> omega
    obtain ⟨xs, hlen, hxs⟩ := typed (α := α) (n := len) (p := fun i x => ∀ j u, (cells x)[j]? = some u → w.cell? ((a.add (i * sz)).add j) = some u) (fun i hi => by
      obtain ⟨cs', hc, ht'⟩ := hx i (by omega)
      obtain ⟨x, hx'⟩ := hdec _ _ _ ht'
      rw [hC] at hc
      obtain ⟨_, hcl, hat⟩ := World.cells?_some hc
      refine ⟨x, fun j u hu => ?_⟩
      rw [hx'] at hu
      have hj : j < sz := by
        rw [← hcl]
        exact (List.getElem?_eq_some_iff.1 hu).1
      rw [hat j hj, hu])
    refine ⟨some a, len, cap, xs, rfl, hl, hm, hlen, fun hn => ?_⟩
    obtain ⟨cs', hc, ht'⟩ := hx 0 (by omega)
    rw [hC] at hc
    obtain ⟨_, hcl, hat⟩ := World.cells?_some hc
    have h0 := hat 0 hsz
    have hv0 : cs'[0]? = some (cs'[0]'(by omega)) := List.getElem?_eq_getElem (by omega)
    rw [hv0, Nat.zero_mul] at h0
    have ha : a = ⟨a.block, a.off, none⟩ := addr_form (w := w) (u := cs'[0]'(by omega)) (by simpa [Addr.add] using h0)
    refine ⟨a.block, a.off, by rw [← ha], ?_, fun i x j u h1 h2 => ?_⟩
    · have := block_lt_of_cell h0
      simpa [Addr.add] using this
    · have h3 := hxs i x h1 j u h2
      rw [ha, add_form, add_form, Nat.add_assoc] at h3
      exact h3

/-- A flat struct's cells, each with its own reading. -/
theorem dec_fields {e : TypeId} {fs : Array Field} (he : P.underlying e = some (.struct fs)) (hone : oneCellFields P fs = true) (hC : P.cellsOf e = fs.size) {n : Nat} {cs : List Value} {y : DataW H × List MemPlace} (h : DataW.trod enc P w 0 spare held n e cs = some y) :
    cs.length = fs.size ∧ ∃ m, ∀ (j : Nat) (f : Field), fs[j]? = some f → ∃ v y', cs[j]? = some v ∧ DataW.trod enc P w 0 spare held m f.type [v] = some y' := by
  obtain ⟨ys, n', hn', hy, hlen, hyl, hf⟩ := DataW.trod_struct he h
  rw [hC] at hlen
  refine ⟨hlen, n', fun j f hj => ?_⟩
  obtain ⟨ho, hk⟩ := hone_of hone j f hj
  have hjl : j < fs.size := (Array.getElem?_eq_some_iff.1 hj).1
  have h1 := hf j f hj
  rw [ho, hk] at h1
  have hone' : (cs.drop j).take 1 = [cs[j]'(by omega)] := by
    rw [List.drop_eq_getElem_cons (by omega)]
    rfl
  rw [hone'] at h1
  exact ⟨cs[j]'(by omega), ys[j]'(by omega), List.getElem?_eq_getElem (by omega), h1.trans (List.getElem?_eq_getElem (by omega))⟩

theorem dec_int1 {e : TypeId} {k : IntKind} (he : P.underlying e = some (.int k)) {n : Nat} {v : Value} {y : DataW H × List MemPlace} (h : DataW.trod enc P w 0 spare held n e [v] = some y) : ∃ z : Int, v = .int k z := by
  obtain ⟨z, e, _, _⟩ := DataW.trod_int he h
  simp only [List.cons.injEq, and_true] at e
  exact ⟨z, e⟩
theorem dec_bool1 {e : TypeId} (he : P.underlying e = some .bool) {n : Nat} {v : Value} {y : DataW H × List MemPlace} (h : DataW.trod enc P w 0 spare held n e [v] = some y) : ∃ z : Bool, v = .bool z := by
  obtain ⟨z, e, _⟩ := DataW.trod_bool he h
  simp only [List.cons.injEq, and_true] at e
  exact ⟨z, e⟩

theorem dec_int {e : TypeId} {k : IntKind} (he : P.underlying e = some (.int k)) (n : Nat) (cs : List Value) (y : DataW H × List MemPlace) (h : DataW.trod enc P w 0 spare held n e cs = some y) : ∃ x : Int, [Value.int k x] = cs := by
  obtain ⟨z, rfl, _, _⟩ := DataW.trod_int he h
  exact ⟨z, rfl⟩
theorem dec_bool {e : TypeId} (he : P.underlying e = some .bool) (n : Nat) (cs : List Value) (y : DataW H × List MemPlace) (h : DataW.trod enc P w 0 spare held n e cs = some y) : ∃ x : Bool, [Value.bool x] = cs := by
  obtain ⟨z, rfl, _⟩ := DataW.trod_bool he h
  exact ⟨z, rfl⟩
end

end Go.Proofs.Ytmjdgplkcocgmaa

/-
  How the elements of a law's slices are read: each of the program's flat types, out of its cells.
-/
set_option linter.unusedVariables false
namespace Go.Proofs.Ytmjdgplkcocgmaa
open Go.RowKit Go.ChangeShapes Go.WideShapes Go.Deep Go.Joins

section
variable {H : Type} {enc : TypeId × Value → H} {P : Program} {w : World} {spare : Nat → Bool} {held : Bool}

theorem dec_need {e : TypeId} {f0 f1 f2 : Field} (he : P.underlying e = some (.struct #[f0, f1, f2])) (hone : oneCellFields P #[f0, f1, f2] = true) (hC : P.cellsOf e = 3) (t0 : P.underlying f0.type = some (.int .i64)) (t1 : P.underlying f1.type = some (.int .i64)) (t2 : P.underlying f2.type = some (.int .i64))
    (n : Nat) (cs : List Value) (y : DataW H × List MemPlace) (h : DataW.trod enc P w 0 spare held n e cs = some y) : ∃ x : Need, ([.int .i64 x.W, .int .i64 x.H, .int .i64 x.Count] : List Value) = cs := by
  obtain ⟨hl, m, hf⟩ := dec_fields he hone hC h
  match cs, hl with
  | [d0, d1, d2], _ =>
    obtain ⟨v0, y0, c0, k0⟩ := hf 0 f0 rfl
    obtain ⟨z0, rfl⟩ := dec_int1 t0 k0
    obtain ⟨v1, y1, c1, k1⟩ := hf 1 f1 rfl
    obtain ⟨z1, rfl⟩ := dec_int1 t1 k1
    obtain ⟨v2, y2, c2, k2⟩ := hf 2 f2 rfl
    obtain ⟨z2, rfl⟩ := dec_int1 t2 k2
    simp only [List.getElem?_cons_zero, List.getElem?_cons_succ, Option.some.injEq] at c0 c1 c2
    subst c0 c1 c2
    exact ⟨⟨z0, z1, z2⟩, rfl⟩

theorem dec_line {e : TypeId} {f0 f1 : Field} (he : P.underlying e = some (.struct #[f0, f1])) (hone : oneCellFields P #[f0, f1] = true) (hC : P.cellsOf e = 2) (t0 : P.underlying f0.type = some (.int .i64)) (t1 : P.underlying f1.type = some (.int .i64))
    (n : Nat) (cs : List Value) (y : DataW H × List MemPlace) (h : DataW.trod enc P w 0 spare held n e cs = some y) : ∃ x : Line, ([.int .i64 x.From, .int .i64 x.To] : List Value) = cs := by
  obtain ⟨hl, m, hf⟩ := dec_fields he hone hC h
  match cs, hl with
  | [d0, d1], _ =>
    obtain ⟨v0, y0, c0, k0⟩ := hf 0 f0 rfl
    obtain ⟨z0, rfl⟩ := dec_int1 t0 k0
    obtain ⟨v1, y1, c1, k1⟩ := hf 1 f1 rfl
    obtain ⟨z1, rfl⟩ := dec_int1 t1 k1
    simp only [List.getElem?_cons_zero, List.getElem?_cons_succ, Option.some.injEq] at c0 c1
    subst c0 c1
    exact ⟨⟨z0, z1⟩, rfl⟩

theorem dec_join {e : TypeId} {f0 f1 f2 : Field} (he : P.underlying e = some (.struct #[f0, f1, f2])) (hone : oneCellFields P #[f0, f1, f2] = true) (hC : P.cellsOf e = 3) (t0 : P.underlying f0.type = some .bool) (t1 : P.underlying f1.type = some (.int .i64)) (t2 : P.underlying f2.type = some (.int .i64))
    (n : Nat) (cs : List Value) (y : DataW H × List MemPlace) (h : DataW.trod enc P w 0 spare held n e cs = some y) : ∃ x : Join, ([.bool x.Upright, .int .i64 x.A, .int .i64 x.B] : List Value) = cs := by
  obtain ⟨hl, m, hf⟩ := dec_fields he hone hC h
  match cs, hl with
  | [d0, d1, d2], _ =>
    obtain ⟨v0, y0, c0, k0⟩ := hf 0 f0 rfl
    obtain ⟨z0, rfl⟩ := dec_bool1 t0 k0
    obtain ⟨v1, y1, c1, k1⟩ := hf 1 f1 rfl
    obtain ⟨z1, rfl⟩ := dec_int1 t1 k1
    obtain ⟨v2, y2, c2, k2⟩ := hf 2 f2 rfl
    obtain ⟨z2, rfl⟩ := dec_int1 t2 k2
    simp only [List.getElem?_cons_zero, List.getElem?_cons_succ, Option.some.injEq] at c0 c1 c2
    subst c0 c1 c2
    exact ⟨⟨z0, z1, z2⟩, rfl⟩

theorem dec_patch {e : TypeId} {f0 f1 f2 f3 f4 : Field} (he : P.underlying e = some (.struct #[f0, f1, f2, f3, f4])) (hone : oneCellFields P #[f0, f1, f2, f3, f4] = true) (hC : P.cellsOf e = 5) (t0 : P.underlying f0.type = some (.int .i64)) (t1 : P.underlying f1.type = some (.int .i64)) (t2 : P.underlying f2.type = some (.int .i64)) (t3 : P.underlying f3.type = some (.int .i64)) (t4 : P.underlying f4.type = some (.int .i64))
    (n : Nat) (cs : List Value) (y : DataW H × List MemPlace) (h : DataW.trod enc P w 0 spare held n e cs = some y) : ∃ x : Patch, ([.int .i64 x.X, .int .i64 x.Y, .int .i64 x.W, .int .i64 x.H, .int .i64 x.Color] : List Value) = cs := by
  obtain ⟨hl, m, hf⟩ := dec_fields he hone hC h
  match cs, hl with
  | [d0, d1, d2, d3, d4], _ =>
    obtain ⟨v0, y0, c0, k0⟩ := hf 0 f0 rfl
    obtain ⟨z0, rfl⟩ := dec_int1 t0 k0
    obtain ⟨v1, y1, c1, k1⟩ := hf 1 f1 rfl
    obtain ⟨z1, rfl⟩ := dec_int1 t1 k1
    obtain ⟨v2, y2, c2, k2⟩ := hf 2 f2 rfl
    obtain ⟨z2, rfl⟩ := dec_int1 t2 k2
    obtain ⟨v3, y3, c3, k3⟩ := hf 3 f3 rfl
    obtain ⟨z3, rfl⟩ := dec_int1 t3 k3
    obtain ⟨v4, y4, c4, k4⟩ := hf 4 f4 rfl
    obtain ⟨z4, rfl⟩ := dec_int1 t4 k4
    simp only [List.getElem?_cons_zero, List.getElem?_cons_succ, Option.some.injEq] at c0 c1 c2 c3 c4
    subst c0 c1 c2 c3 c4
    exact ⟨⟨z0, z1, z2, z3, z4⟩, rfl⟩

theorem dec_cell {e : TypeId} {f0 f1 f2 : Field} (he : P.underlying e = some (.struct #[f0, f1, f2])) (hone : oneCellFields P #[f0, f1, f2] = true) (hC : P.cellsOf e = 3) (t0 : P.underlying f0.type = some (.int .i64)) (t1 : P.underlying f1.type = some (.int .i64)) (t2 : P.underlying f2.type = some (.int .i64))
    (n : Nat) (cs : List Value) (y : DataW H × List MemPlace) (h : DataW.trod enc P w 0 spare held n e cs = some y) : ∃ x : Cell, ([.int .i64 x.Split, .int .i64 x.A, .int .i64 x.B] : List Value) = cs := by
  obtain ⟨hl, m, hf⟩ := dec_fields he hone hC h
  match cs, hl with
  | [d0, d1, d2], _ =>
    obtain ⟨v0, y0, c0, k0⟩ := hf 0 f0 rfl
    obtain ⟨z0, rfl⟩ := dec_int1 t0 k0
    obtain ⟨v1, y1, c1, k1⟩ := hf 1 f1 rfl
    obtain ⟨z1, rfl⟩ := dec_int1 t1 k1
    obtain ⟨v2, y2, c2, k2⟩ := hf 2 f2 rfl
    obtain ⟨z2, rfl⟩ := dec_int1 t2 k2
    simp only [List.getElem?_cons_zero, List.getElem?_cons_succ, Option.some.injEq] at c0 c1 c2
    subst c0 c1 c2
    exact ⟨⟨z0, z1, z2⟩, rfl⟩

theorem dec_spot {e : TypeId} {f0 f1 : Field} (he : P.underlying e = some (.struct #[f0, f1])) (hone : oneCellFields P #[f0, f1] = true) (hC : P.cellsOf e = 2) (t0 : P.underlying f0.type = some (.int .i64)) (t1 : P.underlying f1.type = some (.int .i64))
    (n : Nat) (cs : List Value) (y : DataW H × List MemPlace) (h : DataW.trod enc P w 0 spare held n e cs = some y) : ∃ x : Spot, ([.int .i64 x.Block, .int .i64 x.Seen] : List Value) = cs := by
  obtain ⟨hl, m, hf⟩ := dec_fields he hone hC h
  match cs, hl with
  | [d0, d1], _ =>
    obtain ⟨v0, y0, c0, k0⟩ := hf 0 f0 rfl
    obtain ⟨z0, rfl⟩ := dec_int1 t0 k0
    obtain ⟨v1, y1, c1, k1⟩ := hf 1 f1 rfl
    obtain ⟨z1, rfl⟩ := dec_int1 t1 k1
    simp only [List.getElem?_cons_zero, List.getElem?_cons_succ, Option.some.injEq] at c0 c1
    subst c0 c1
    exact ⟨⟨z0, z1⟩, rfl⟩


theorem dec_byte {e : TypeId} (he : P.underlying e = some (.int .u8)) (n : Nat) (cs : List Value) (y : DataW H × List MemPlace) (h : DataW.trod enc P w 0 spare held n e cs = some y) : ∃ x : UInt8, byteC x = cs := by
  obtain ⟨z, rfl, _, hw⟩ := DataW.trod_int he h
  have h1 : 0 ≤ z ∧ z ≤ 255 := bounds_u8 hw
  refine ⟨UInt8.ofNat z.toNat, ?_⟩
  unfold byteC
  have : ((UInt8.ofNat z.toNat).toNat : Int) = z := by
    rw [UInt8.toNat_ofNat']
    omega
  rw [this]
end

end Go.Proofs.Ytmjdgplkcocgmaa
