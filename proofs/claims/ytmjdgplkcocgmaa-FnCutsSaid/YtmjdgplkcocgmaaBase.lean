/-
  The words for memory that all texts of this seat use: a slice that is read as a list of flat elements (Rd), a slice that lies in a block of the call's own (Own).
-/
import Derived.WalkKit
import Derived.ProofKit
import Derived.OpenShut
import Derived.WalkSpells
import Derived.WalkLawsBesides
import Derived.Lib.Hide
import Derived.Lib.SmallJoins
import Derived.Deep.OwnRows
import Derived.Deep.Slices
import Derived.Deep.Fields
import Derived.Deep.Draws
import Derived.Deep.QuietTactic
import Derived.BigQuiet
import Derived.Deep.LoopGhost
import Derived.Deep.DeepCutAuto
import Derived.StillTailTactics
import Derived.Deep.RegionHeld3
set_option linter.unusedVariables false
namespace Go.Proofs.Ytmjdgplkcocgmaa
open Go.RowKit

theorem bcell {W w1 : World} (hb : Below W.heap.size W w1) : (∀ b o, b < W.heap.size → w1.cell? ⟨b, o, none⟩ = W.cell? ⟨b, o, none⟩) ∧ (∀ b o, b < W.heap.size → w1.frozen? ⟨b, o, none⟩ = W.frozen? ⟨b, o, none⟩) :=
  ⟨fun b o h => hb.cell (p := ⟨b, o, none⟩) h, fun b o h => hb.frozen (p := ⟨b, o, none⟩) h⟩

theorem below_drewN {B : Nat} {a w : World} (h : Below B a w) (n : Nat) : Below B a (w.drewN n) := ⟨h.os, h.tape, h.output, h.size, h.block⟩

theorem ret_b {a b : Bool} (h : a = b) : Ending.returned (.bool a) = .returned (.bool b) := by rw [h]
theorem ret_i {a b : Int} (h : a = b) : Ending.returned (.int .i64 a) = .returned (.int .i64 b) := by rw [h]

theorem ret_ii {a b c d : Int} (h : a = c) (k : b = d) : Ending.returned (.tuple #[.int .i64 a, .int .i64 b]) = .returned (.tuple #[.int .i64 c, .int .i64 d]) := by rw [h, k]

theorem num_eq {a b : Int} (h : a = b) : Value.int .i64 a = .int .i64 b := by rw [h]

theorem addr_form {w : World} {a : Addr} {u : Value} (h : w.cell? a = some u) : a = ⟨a.block, a.off, none⟩ := by
  obtain ⟨b, o, s⟩ := a
  cases s with
  | none => rfl
  | some x =>
    exfalso
    revert h
    simp only [World.cell?]
    split <;> simp

theorem add_form (b off k : Nat) : (Addr.mk b off none).add k = ⟨b, off + k, none⟩ := by
  unfold Addr.add
  by_cases h : k = 0
  · subst h; simp
  · simp [h]

theorem keepcell {w w' : World} {a : Addr} {v : Value} (h : w.cell? a = some v) (hb : Below w.heap.size w w') : w'.cell? a = some v := (hb.cell (block_lt_of_cell h)).trans h

/-! ### A slice that is read -/

/-- The slice '.slice A n c' reads as the list xs: the cells of element i, sz of them, stand at i * sz. -/
def Rd {α : Type} (w : World) (A : Option Addr) (n sz : Nat) (xs : List α) (cells : α → List Value) : Prop :=
  xs.length = n ∧ (0 < n → ∃ b off, A = some ⟨b, off, none⟩ ∧ b < w.heap.size ∧ ∀ (i : Nat) (x : α) (j : Nat) (u : Value), xs[i]? = some x → (cells x)[j]? = some u → w.cell? ⟨b, off + (i * sz + j), none⟩ = some u)

section
variable {α : Type} {w w' : World} {A : Option Addr} {n sz : Nat} {xs : List α} {cells : α → List Value}

theorem Rd.len (h : Rd w A n sz xs cells) : xs.length = n := h.1
theorem Rd.below (h : Rd w A n sz xs cells) (hb : Below w.heap.size w w') : Rd w' A n sz xs cells :=
  ⟨h.1, fun hn => by
    obtain ⟨b, off, e, hlt, hc⟩ := h.2 hn
    exact ⟨b, off, e, Nat.lt_of_lt_of_le hlt hb.size, fun i x j u h1 h2 => (hb.cell (p := ⟨b, _, none⟩) hlt).trans (hc i x j u h1 h2)⟩⟩
theorem Rd.nil (w : World) (A : Option Addr) (sz : Nat) (cells : α → List Value) : Rd w A 0 sz [] cells := ⟨rfl, fun h => absurd h (by omega)⟩
theorem Rd.at_ (h : Rd w A n sz xs cells) {k : Nat} (hk : k < n) :
    ∃ b off x, A = some ⟨b, off, none⟩ ∧ b < w.heap.size ∧ xs[k]? = some x ∧ ∀ j u, (cells x)[j]? = some u → w.cell? ⟨b, off + (k * sz + j), none⟩ = some u := by
  obtain ⟨b, off, e, hlt, hc⟩ := h.2 (by omega)
  have hl : k < xs.length := by rw [h.1]; exact hk
  exact ⟨b, off, xs[k], e, hlt, List.getElem?_eq_getElem hl, fun j u hu => hc k _ j u (List.getElem?_eq_getElem hl) hu⟩
end

def intC (x : Int) : List Value := [.int .i64 x]
def boolC (x : Bool) : List Value := [.bool x]
def byteC (x : UInt8) : List Value := [.int .u8 (x.toNat : Int)]

/-- Index k of a slice of one-cell elements, in a later world. -/
theorem Rd.at1 {α : Type} {w w' : World} {A : Option Addr} {n : Nat} {xs : List α} {v : α → Value} (h : Rd w A n 1 xs (fun x => [v x])) {k : Nat} (hk : k < n) (hb : Below w.heap.size w w') :
    ∃ b off x, A = some ⟨b, off, none⟩ ∧ b < w.heap.size ∧ xs[k]? = some x ∧ w'.cell? ⟨b, off + k, none⟩ = some (v x) := by
  obtain ⟨b, off, x, e, hlt, hx, hc⟩ := h.at_ hk
  exact ⟨b, off, x, e, hlt, hx, (hb.cell (p := ⟨b, _, none⟩) hlt).trans (by simpa using hc 0 _ rfl)⟩

/-! ### A block of the call's own: a row of elements -/

theorem heap_lt {w : World} {g : Nat} {o : Obj} (h : w.heap[g]? = some o) : g < w.heap.size := by
  obtain ⟨hlt, _⟩ := Array.getElem?_eq_some_iff.1 h
  exact hlt

/-- Block g has room for n elements of sz cells, none frozen; the first k elements are those of xs. -/
def Part {α : Type} (w : World) (g : Nat) (T : TypeId) (n sz : Nat) (xs : List α) (cells : α → List Value) (k : Nat) : Prop :=
  ∃ c : Array Value, w.heap[g]? = some (.cells c T (0, 0)) ∧ n * sz ≤ c.size ∧ ∀ (i : Nat) (x : α) (j : Nat) (u : Value), i < k → xs[i]? = some x → (cells x)[j]? = some u → c[i * sz + j]? = some u

/-- Stores side by side, from offset o of block g on. -/
def setRow (w : World) (g o : Nat) : List Value → World
  | [] => w
  | u :: us => setRow (w.setCell ⟨g, o, none⟩ u) g (o + 1) us

section
variable {α : Type} {w w' : World} {g n sz k : Nat} {T : TypeId} {xs : List α} {cells : α → List Value}

theorem Part.made (w : World) (z : Array Value) (T : TypeId) (n sz : Nat) (xs : List α) (cells : α → List Value) : Part (w.alloc (.cells (madeCells z (n * sz)) T)) w.heap.size T n sz xs cells 0 :=
  ⟨_, heap_alloc_new w _, by rw [size_madeCells]; exact Nat.le_refl _, fun i _ _ _ h => absurd h (by omega)⟩
theorem Part.lt (h : Part w g T n sz xs cells k) : g < w.heap.size := by
  obtain ⟨c, hc, _⟩ := h
  exact heap_lt hc
theorem Part.frozen (h : Part w g T n sz xs cells k) (o : Nat) : w.frozen? ⟨g, o, none⟩ = false := by
  obtain ⟨c, hc, _⟩ := h
  simp [World.frozen?, hc]
theorem Part.cell (h : Part w g T n sz xs cells k) {o : Nat} (ho : o < n * sz) : ∃ u, w.cell? ⟨g, o, none⟩ = some u := by
  obtain ⟨c, hc, hz, _⟩ := h
  exact ⟨c[o]'(by omega), by rw [cell_of_row w g o c T (0, 0) hc, Array.getElem?_eq_getElem]⟩
theorem Part.block (h : Part w g T n sz xs cells k) (e : w'.heap[g]? = w.heap[g]?) : Part w' g T n sz xs cells k := by
  obtain ⟨c, hc, hz, hx⟩ := h
  exact ⟨c, e.trans hc, hz, hx⟩
theorem Part.below (h : Part w g T n sz xs cells k) (hb : Below w.heap.size w w') : Part w' g T n sz xs cells k := h.block (hb.block g h.lt)
theorem Part.mono (h : Part w g T n sz xs cells k) {k' : Nat} (hk : k' ≤ k) : Part w g T n sz xs cells k' := by
  obtain ⟨c, hc, hz, hx⟩ := h
  exact ⟨c, hc, hz, fun i x j u hi => hx i x j u (by omega)⟩
theorem Part.zero (h : Part w g T n sz xs cells k) {β : Type} (ys : List β) (cells' : β → List Value) : Part w g T n sz ys cells' 0 := by
  obtain ⟨c, hc, hz, hx⟩ := h
  exact ⟨c, hc, hz, fun i x j u hi => absurd hi (by omega)⟩
theorem Part.at_ (h : Part w g T n sz xs cells k) {i : Nat} {x : α} (hi : i < k) (hx : xs[i]? = some x) {j : Nat} {u : Value} (hu : (cells x)[j]? = some u) : w.cell? ⟨g, i * sz + j, none⟩ = some u := by
  obtain ⟨c, hc, hz, hh⟩ := h
  rw [cell_of_row w g _ c T (0, 0) hc]
  exact hh i x j u hi hx hu

/-- One store: the cells of the elements that are held may not be touched. -/
theorem Part.set_ (h : Part w g T n sz xs cells k) (o : Nat) (u : Value) (ho : ∀ i x j v, i < k → xs[i]? = some x → (cells x)[j]? = some v → i * sz + j = o → v = u) : Part (w.setCell ⟨g, o, none⟩ u) g T n sz xs cells k := by
  obtain ⟨c, hc, hz, hx⟩ := h
  refine ⟨c.setIfInBounds o u, ?_, by simpa using hz, fun i x j v hi h1 h2 => ?_⟩
  · simp [World.setCell, Array.getElem?_modify, hc]
  · have h3 := hx i x j v hi h1 h2
    rw [Array.getElem?_setIfInBounds]
    by_cases e : o = i * sz + j
    · have hlt : i * sz + j < c.size := (Array.getElem?_eq_some_iff.1 h3).1
      rw [if_pos e, if_pos (by omega), ho i x j v hi h1 h2 e.symm]
    · rw [if_neg e]; exact h3

theorem heap_setRow_other (w : World) (g o : Nat) (us : List Value) {b : Nat} (hb : b ≠ g) : (setRow w g o us).heap[b]? = w.heap[b]? := by
  induction us generalizing w o with
  | nil => rfl
  | cons u us ih =>
    unfold setRow
    rw [ih, Below.heap_setCell _ _ _ _ hb]

theorem heap_setRow (w : World) (g o : Nat) (us : List Value) {c : Array Value} {T : TypeId} (hc : w.heap[g]? = some (.cells c T (0, 0))) :
    ∃ c' : Array Value, (setRow w g o us).heap[g]? = some (.cells c' T (0, 0)) ∧ c'.size = c.size ∧ (∀ i, i < o ∨ o + us.length ≤ i → c'[i]? = c[i]?) ∧ ∀ j u, us[j]? = some u → o + j < c.size → c'[o + j]? = some u := by
  induction us generalizing w o c with
  | nil => exact ⟨c, hc, rfl, fun _ _ => rfl, fun j u h => by simp at h⟩
  | cons v us ih =>
    obtain ⟨c', h1, h2, h3, h4⟩ := ih (w.setCell ⟨g, o, none⟩ v) (o + 1) (c := c.setIfInBounds o v) (by simp [World.setCell, Array.getElem?_modify, hc])
    refine ⟨c', h1, by simpa using h2, fun i hi => ?_, fun j u hj hlt => ?_⟩
    · rw [h3 i (by simp only [List.length_cons] at hi; omega), Array.getElem?_setIfInBounds, if_neg (by simp only [List.length_cons] at hi; omega)]
    · cases j with
      | zero =>
        simp only [List.getElem?_cons_zero, Option.some.injEq] at hj
        subst hj
        rw [h3 (o + 0) (by omega), Array.getElem?_setIfInBounds, if_pos (by omega), if_pos (by omega)]
      | succ j =>
        rw [show o + (j + 1) = (o + 1) + j from by omega]
        exact h4 j u (by simpa using hj) (by simp; omega)

/-- The next element is stored. -/
theorem Part.store (h : Part w g T n sz xs cells k) {x : α} (hx : xs[k]? = some x) (hl : ∀ y, (cells y).length = sz) (hk : k < n) : Part (setRow w g (k * sz) (cells x)) g T n sz xs cells (k + 1) := by
  obtain ⟨c, hc, hz, hh⟩ := h
  obtain ⟨c', h1, h2, h3, h4⟩ := heap_setRow w g (k * sz) (cells x) hc
  refine ⟨c', h1, by omega, fun i y j u hi hy hu => ?_⟩
  have hj : j < sz := by rw [← hl y]; exact (List.getElem?_eq_some_iff.1 hu).1
  by_cases e : i = k
  · subst e
    rw [hx] at hy
    injection hy with hy
    subst hy
    have : (i + 1) * sz ≤ n * sz := Nat.mul_le_mul_right _ (by omega)
    rw [Nat.add_mul] at this
    exact h4 j u hu (by omega)
  · have : (i + 1) * sz ≤ k * sz := Nat.mul_le_mul_right _ (by omega)
    rw [Nat.add_mul] at this
    rw [h3 _ (by omega)]
    exact hh i y j u (by omega) hy hu

theorem below_setRow {B : Nat} {a : World} (h : Below B a w) {g : Nat} (hg : B ≤ g) (o : Nat) (us : List Value) : Below B a (setRow w g o us) := by
  induction us generalizing w o with
  | nil => exact h
  | cons u us ih => exact ih (h.setCell (p := ⟨g, o, none⟩) hg u) _

theorem only_setRow {a : World} (h : a.grownBy w (some g)) (o : Nat) (us : List Value) : a.grownBy (setRow w g o us) (some g) := by
  induction us generalizing w o with
  | nil => exact h
  | cons u us ih =>
    refine ih (w := w.setCell ⟨g, o, none⟩ u) ⟨h.os, h.tape, h.output, by simpa [World.setCell] using h.size, fun i hi hne => ?_⟩ (o + 1)
    rw [Below.heap_setCell _ _ _ _ (fun e => hne (by rw [e]))]
    exact h.block i hi hne
end

/-! ### Only the blocks from lo up to hi have turned -/

structure Only (lo hi : Nat) (w w' : World) : Prop where
  os : w'.os = w.os
  tape : w'.tape = w.tape
  output : w'.output = w.output
  size : w.heap.size ≤ w'.heap.size
  block : ∀ k, k < w.heap.size → (k < lo ∨ hi ≤ k) → w'.heap[k]? = w.heap[k]?

theorem Only.refl (lo hi : Nat) (w : World) : Only lo hi w w := ⟨rfl, rfl, rfl, Nat.le_refl _, fun _ _ _ => rfl⟩
theorem Only.trans {lo hi : Nat} {a b c : World} (h : Only lo hi a b) (k : Only lo hi b c) : Only lo hi a c :=
  ⟨k.os.trans h.os, k.tape.trans h.tape, k.output.trans h.output, Nat.le_trans h.size k.size, fun i hi hd => (k.block i (Nat.lt_of_lt_of_le hi h.size) hd).trans (h.block i hi hd)⟩
theorem Only.of_row {lo hi g : Nat} {w w' : World} (h : w.grownBy w' (some g)) (h1 : lo ≤ g) (h2 : g < hi) : Only lo hi w w' :=
  ⟨h.os, h.tape, h.output, h.size, fun k hk hd => h.block k hk (fun e => by injection e with e; omega)⟩
theorem Only.of_below {lo hi : Nat} {w w' : World} (h : Below w.heap.size w w') : Only lo hi w w' :=
  ⟨h.os, h.tape, h.output, h.size, fun k hk _ => h.block k hk⟩
theorem Only.mono {lo hi lo' hi' : Nat} {w w' : World} (h : Only lo hi w w') (h1 : lo' ≤ lo) (h2 : hi ≤ hi') : Only lo' hi' w w' :=
  ⟨h.os, h.tape, h.output, h.size, fun k hk hd => h.block k hk (by omega)⟩
/-- Below B nothing has turned, if what has turned lies from B on. -/
theorem below_only {B lo hi : Nat} {a w w' : World} (h : Below B a w) (ho : Only lo hi w w') (hB : B ≤ w.heap.size) (hl : B ≤ lo) : Below B a w' :=
  h.trans ⟨ho.os, ho.tape, ho.output, ho.size, fun k hk => ho.block k (by omega) (.inl (by omega))⟩

/-! ### A slice in a block of the call's own -/

def OwnP {α : Type} (w : World) (lo hi : Nat) (A : Option Addr) (n sz : Nat) (xs : List α) (cells : α → List Value) (k : Nat) : Prop :=
  xs.length = n ∧ (0 < n → ∃ g T, A = some ⟨g, 0, none⟩ ∧ lo ≤ g ∧ g < hi ∧ Part w g T n sz xs cells k)
/-- The slice '.slice A n c' lies at the head of a block from lo up to hi, and reads as xs. -/
def Own {α : Type} (w : World) (lo hi : Nat) (A : Option Addr) (n sz : Nat) (xs : List α) (cells : α → List Value) : Prop := OwnP w lo hi A n sz xs cells n

section
variable {α : Type} {w w' : World} {lo hi : Nat} {A : Option Addr} {n sz : Nat} {xs : List α} {cells : α → List Value}

theorem Own.rd (h : Own w lo hi A n sz xs cells) : Rd w A n sz xs cells :=
  ⟨h.1, fun hn => by
    obtain ⟨g, T, e, _, _, hp⟩ := h.2 hn
    refine ⟨g, 0, e, hp.lt, fun i x j u h1 h2 => ?_⟩
    rw [Nat.zero_add]
    have hi : i < n := by rw [← h.1]; exact (List.getElem?_eq_some_iff.1 h1).1
    exact hp.at_ hi h1 h2⟩
theorem Own.only (h : Own w lo hi A n sz xs cells) {lo' hi' : Nat} (ho : Only lo' hi' w w') (hd : hi ≤ lo' ∨ hi' ≤ lo) : Own w' lo hi A n sz xs cells :=
  ⟨h.1, fun hn => by
    obtain ⟨g, T, e, h1, h2, hp⟩ := h.2 hn
    exact ⟨g, T, e, h1, h2, hp.block (ho.block g hp.lt (by omega))⟩⟩
theorem Own.below (h : Own w lo hi A n sz xs cells) (hb : Below w.heap.size w w') : Own w' lo hi A n sz xs cells :=
  ⟨h.1, fun hn => by
    obtain ⟨g, T, e, h1, h2, hp⟩ := h.2 hn
    exact ⟨g, T, e, h1, h2, hp.below hb⟩⟩
theorem Own.mono (h : Own w lo hi A n sz xs cells) {lo' hi' : Nat} (h1 : lo' ≤ lo) (h2 : hi ≤ hi') : Own w lo' hi' A n sz xs cells :=
  ⟨h.1, fun hn => by
    obtain ⟨g, T, e, h3, h4, r⟩ := h.2 hn
    exact ⟨g, T, e, by omega, by omega, r⟩⟩
theorem Own.len (h : Own w lo hi A n sz xs cells) : xs.length = n := h.1
theorem Own.nil (w : World) (lo hi : Nat) (A : Option Addr) (sz : Nat) (cells : α → List Value) : Own w lo hi A 0 sz ([] : List α) cells := ⟨rfl, fun h => absurd h (by omega)⟩
theorem grownBy_trans {a b c : World} {row : Option Nat} (h : a.grownBy b row) (k : b.grownBy c row) : a.grownBy c row :=
  ⟨k.os.trans h.os, k.tape.trans h.tape, k.output.trans h.output, Nat.le_trans h.size k.size, fun i hi hne => (k.block i (Nat.lt_of_lt_of_le hi h.size) hne).trans (h.block i hi hne)⟩
end

/-- What a function leaves that makes a new slice: it reads as xs, in a block of its own. -/
def Made {α : Type} (W : World) (n sz : Nat) (xs : List α) (cells : α → List Value) (e : Ending) (w' : World) : Prop :=
  ∃ A c, e = .returned (.slice A n c) ∧ n ≤ c ∧ Own w' W.heap.size w'.heap.size A n sz xs cells ∧ Below W.heap.size W w'

/-- make([]T, n). -/
theorem mk_eq {P : Program} (t e : TypeId) (z : Value) (size bytes : Nat) (ht : P.underlying t = some (.slice e)) (hinfo : (P.info? e).map (fun i => (i.zero, i.size, i.bytes)) = some (some z, size, bytes))
    (n : Nat) (hb : bytes * n ≤ 281474976710656) (hn : n ≤ 9223372036854775807) (w : World) :
    (Instr.makeSlice t (.int .i64 (n : Int)) (.int .i64 (n : Int))).run P w = .ok (.slice (some ⟨w.heap.size, 0, none⟩) n n) (w.alloc (.cells (madeCells z.cells (n * size)) e)) := by
  obtain ⟨i, hi, hzz⟩ := Option.map_eq_some_iff.1 hinfo
  simp only [Prod.mk.injEq] at hzz
  obtain ⟨hz, hs, hby⟩ := hzz
  have hb' : (i.bytes : Int) * (n : Int) ≤ 281474976710656 := by
    have h : ((i.bytes * n : Nat) : Int) ≤ 281474976710656 := by rw [hby]; omega
    rwa [Int.natCast_mul] at h
  have hr := run_make (P := P) w t e i z ht hi hz .i64 .i64 (n : Int) (n : Int) (by omega) (by omega) hb' (by omega)
  simp only [Int.toNat_natCast, hs] at hr
  exact hr

end Go.Proofs.Ytmjdgplkcocgmaa
