/-
  A slice that the call itself builds by append, one element at a time: Acc.
-/
import Derived.Test.YtmjdgplkcocgmaaBase
import Derived.Maps.AppendAt
import Derived.OwnWalk
set_option linter.unusedVariables false
namespace Go.Proofs.Ytmjdgplkcocgmaa
open Go.RowKit

/-- The value v is a slice of the call's own, in a block from lo on (or nil): it reads as xs and may be appended to. -/
def Acc {α : Type} (w : World) (lo : Nat) (e : TypeId) (sz : Nat) (v : Value) (xs : List α) (cells : α → List Value) : Prop :=
  w.ownsRow lo e sz v xs.length (xs.flatMap cells)

section
variable {α : Type} {w w' : World} {lo sz : Nat} {e : TypeId} {v : Value} {xs : List α} {cells : α → List Value}

theorem flat_at {α : Type} {sz : Nat} {xs : List α} {cells : α → List Value} (hl : ∀ y, (cells y).length = sz) : ∀ {i : Nat} {x : α} {j : Nat} {u : Value}, xs[i]? = some x → (cells x)[j]? = some u → (xs.flatMap cells)[i * sz + j]? = some u := by
  induction xs with
  | nil => intro i x j u h; simp at h
  | cons y ys ih =>
    intro i x j u h1 h2
    rw [List.flatMap_cons]
    have hj : j < sz := by rw [← hl x]; exact (List.getElem?_eq_some_iff.1 h2).1
    cases i with
    | zero =>
      simp at h1
      subst h1
      rw [Nat.zero_mul, Nat.zero_add, List.getElem?_append_left (by rw [hl]; exact hj)]
      exact h2
    | succ i =>
      rw [List.getElem?_append_right (by rw [hl, Nat.add_mul]; omega), hl, show (i + 1) * sz + j - sz = i * sz + j from by rw [Nat.add_mul]; omega]
      exact ih (by simpa using h1) h2

theorem Acc.nil (w : World) (lo : Nat) (e : TypeId) (sz : Nat) (cells : α → List Value) : Acc w lo e sz (.slice none 0 0) ([] : List α) cells := ⟨by simp, .inl ⟨rfl, rfl⟩⟩
theorem Acc.lit0 (w : World) (lo : Nat) (e : TypeId) (sz : Nat) (cells : α → List Value) (h : lo ≤ w.heap.size) {g : Nat} (hg : g = w.heap.size) : Acc (w.alloc (.cells #[] e)) lo e sz (.slice (some ⟨g, 0, none⟩) 0 0) ([] : List α) cells := by
  subst hg
  have := World.ownsRow_lit (base := lo) (e := e) (size := sz) w #[] 0 h (by unfold maxLen; omega) (by simp)
  simpa [Acc] using this
theorem Acc.below (h : Acc w lo e sz v xs cells) (hb : Below w.heap.size w w') : Acc w' lo e sz v xs cells := by
  obtain ⟨h1, h2⟩ := h
  refine ⟨h1, ?_⟩
  rcases h2 with h2 | ⟨g, cap, cur, hv, hg, hh, r⟩
  · exact .inl h2
  · exact .inr ⟨g, cap, cur, hv, hg, (hb.block g (heap_lt hh)).trans hh, r⟩
theorem Acc.mono (h : Acc w lo e sz v xs cells) {lo' : Nat} (hl : lo' ≤ lo) : Acc w lo' e sz v xs cells := by
  obtain ⟨h1, h2⟩ := h
  refine ⟨h1, ?_⟩
  rcases h2 with h2 | ⟨g, cap, cur, hv, hg, r⟩
  · exact .inl h2
  · exact .inr ⟨g, cap, cur, hv, Nat.le_trans hl hg, r⟩
theorem Acc.alloc (h : Acc w lo e sz v xs cells) (o : Obj) : Acc (w.alloc o) lo e sz v xs cells := h.below ((Below.refl _ _).alloc (Nat.le_refl _) o)
theorem Acc.drew (h : Acc w lo e sz v xs cells) : Acc w.drew lo e sz v xs cells := h
theorem Acc.drewN (h : Acc w lo e sz v xs cells) (n : Nat) : Acc (w.drewN n) lo e sz v xs cells := h
/-- Another row has grown. -/
theorem Acc.kept (h : Acc w lo e sz v xs cells) {row : Option Nat} (hg : w.grownBy w' row) (hne : ∀ g, v.ownBlock = some g → row ≠ some g) : Acc w' lo e sz v xs cells := by
  obtain ⟨h1, h2⟩ := h
  refine ⟨h1, ?_⟩
  rcases h2 with h2 | ⟨g, cap, cur, hv, hlo, hh, r⟩
  · exact .inl h2
  · exact .inr ⟨g, cap, cur, hv, hlo, (hg.block g (heap_lt hh) (fun e' => hne g (by rw [hv]; rfl) e'.symm)).trans hh, r⟩
theorem Acc.row (h : Acc w lo e sz v xs cells) {g : Nat} (hg : v.ownBlock = some g) : lo ≤ g ∧ g < w.heap.size := by
  rcases h.2 with ⟨rfl, _⟩ | ⟨g', cap, cur, rfl, hlo, hh, _⟩
  · cases hg
  · have : g' = g := by simpa [Value.ownBlock] using hg
    subst this
    exact ⟨hlo, heap_lt hh⟩
theorem Acc.grow_below {B : Nat} {W : World} (h : Acc w lo e sz v xs cells) (hB : Below B W w) (hg : w.grownBy w' v.ownBlock) (h1 : B ≤ lo) (h2 : B ≤ w.heap.size) : Below B W w' :=
  hB.grown hg h2 (fun k hk => Nat.le_trans h1 (h.row hk).1)
/-- What has been built may be read, and written. -/
theorem Acc.own (h : Acc w lo e sz v xs cells) (hl : ∀ y, (cells y).length = sz) : ∃ A c, v = .slice A xs.length c ∧ xs.length ≤ c ∧ Own w lo w.heap.size A xs.length sz xs cells := by
  rcases h.2 with ⟨rfl, hn⟩ | ⟨g, cap, cur, hv, hlo, hh, hc1, hc2, hsz, htk⟩
  · have : xs = [] := List.eq_nil_of_length_eq_zero hn
    subst this
    exact ⟨none, 0, rfl, Nat.le_refl _, Own.nil _ _ _ _ _ _⟩
  · refine ⟨_, _, hv, hc1, rfl, fun hn => ⟨g, e, rfl, hlo, heap_lt hh, cur, hh, ?_, fun i x j u hi hx hu => ?_⟩⟩
    · rw [hsz]; exact Nat.mul_le_mul_right _ hc1
    · have h1 := flat_at hl hx hu
      rw [← htk, List.getElem?_take] at h1
      split at h1
      · simpa using h1
      · cases h1
theorem Acc.made (h : Acc w' lo e sz v xs cells) (hl : ∀ y, (cells y).length = sz) {W : World} (hlo : W.heap.size ≤ lo) (hb : Below W.heap.size W w') {n : Nat} (hn : xs.length = n) : Made W n sz xs cells (.returned v) w' := by
  subst hn
  obtain ⟨A, c, rfl, hc, ho⟩ := h.own hl
  exact ⟨A, c, rfl, hc, ho.mono hlo (Nat.le_refl _), hb⟩
end

/-- append(out, y): the one new element lies in the newest block. -/
theorem wpList_acc1 {α : Type} {P : Program} {w : World} {ops : Array Oper} {rest : List Oper} {o : Oper} {a : Act} {Q : Exit → Act → World → Prop} (hgd : o.guard = none) (s x : Operand) (t : TypeId)
    (ho : o.op = .call { callee := .builtin .append, args := #[s, x], argTypes := #[t, t] })
    (lo : Nat) (e : TypeId) (z : Value) (sz bytes : Nat) (ht : P.underlying t = some (.slice e)) (hinfo : (P.info? e).map (fun i => (i.zero, i.size, i.bytes)) = some (some z, sz, bytes))
    (hzs : z.cells.size = sz) (hsz : 0 < sz) (v : Value) (xs : List α) (cells : α → List Value) (y : α) (hs : a.eval s = v) (hacc : Acc w lo e sz v xs cells)
    (cs : Array Value) (T' : TypeId) (hcs : cs.toList = cells y) (g : Nat) (hx : a.eval x = .slice (some ⟨g, 0, none⟩) 1 1) (hg : g = w.heap.size) (hl : (cells y).length = sz) (h1 : ∀ u ∈ cells y, u.oneCell' = true)
    (h63 : xs.length + 1 ≤ 4294967296) (hby : bytes ≤ 1024) (hlo : lo ≤ w.heap.size)
    (h : ∀ v' w', Acc w' lo e sz v' (xs ++ [y]) cells → w.grownBy w' v.ownBlock → (v'.ownBlock = v.ownBlock ∨ v'.ownBlock = some (w.heap.size + 1)) → wpList P ops Q rest (a.put o.dst v') w') :
    wpList P ops Q (o :: rest) a (w.alloc (.cells cs T')) := by
  subst hg
  obtain ⟨i, hi, hzz⟩ := Option.map_eq_some_iff.1 hinfo
  simp only [Prod.mk.injEq] at hzz
  obtain ⟨hz, hsi, hbi⟩ := hzz
  have hacc' : (w.alloc (.cells cs T')).ownsRow lo e sz v xs.length (xs.flatMap cells) := hacc.alloc _
  refine wpList_append_own_at (w.alloc (.cells cs T')) hgd s x t ho lo e i z sz bytes ht hi hz hsi hbi hzs hsz v xs.length (xs.flatMap cells) hs hacc' ⟨w.heap.size, 0, none⟩ 1 1 (cells y) hx (by omega) ?_ h1 (by unfold maxLen; omega) ?_ (by simp; omega) ?_
  · intro j u hu
    rw [add_form, cell_of_row _ _ _ _ _ _ (heap_alloc_new w _), Nat.zero_add]
    rw [← hcs] at hu
    simpa using hu
  · have : (xs.length + 1) * bytes ≤ 4294967296 * 1024 := Nat.mul_le_mul h63 hby
    omega
  · intro v' w' hown hgrow _ hat
    refine h v' w' ?_ ?_ (by simpa using hat)
    · show w'.ownsRow lo e sz v' (xs ++ [y]).length ((xs ++ [y]).flatMap cells)
      simpa using hown
    · exact ⟨hgrow.os, hgrow.tape, hgrow.output, Nat.le_trans (by simp) hgrow.size, fun k hk hne => (hgrow.block k (by simp; omega) hne).trans (Below.heap_alloc w _ k hk)⟩

/-- The block of v does not lie from lo up to hi. -/
def Sep (v : Value) (lo hi : Nat) : Prop := ∀ g, v.ownBlock = some g → g < lo ∨ hi ≤ g
theorem Sep.nil (lo hi : Nat) : Sep (.slice none 0 0) lo hi := fun g h => by cases h
theorem Sep.next {v v' : Value} {lo hi g : Nat} (h : Sep v lo hi) (hat : v'.ownBlock = v.ownBlock ∨ v'.ownBlock = some g) (hg : hi ≤ g) : Sep v' lo hi := by
  intro k hk
  rcases hat with e | e
  · exact h k (e ▸ hk)
  · rw [e] at hk
    injection hk with hk
    omega
theorem Sep.at_ {lo hi g n c : Nat} (h : g < lo ∨ hi ≤ g) : Sep (.slice (some ⟨g, 0, none⟩) n c) lo hi := by
  intro k hk
  have : g = k := by simpa [Value.ownBlock] using hk
  omega
theorem Own.app {α : Type} {w w' : World} {lo hi : Nat} {A : Option Addr} {n sz : Nat} {xs : List α} {cells : α → List Value} {v : Value} (h : Own w lo hi A n sz xs cells) (hg : w.grownBy w' v.ownBlock) (hs : Sep v lo hi) : Own w' lo hi A n sz xs cells :=
  ⟨h.1, fun hn => by
    obtain ⟨g, T, e, h1, h2, hp⟩ := h.2 hn
    exact ⟨g, T, e, h1, h2, hp.block (hg.block g hp.lt (fun e' => by have := hs g e'.symm; omega))⟩⟩

/-! ### A row of integers that is written in place -/

theorem Part.int_at {w : World} {g : Nat} {T : TypeId} {n : Nat} {d : List Int} (h : Part w g T n 1 d intC n) (hl : d.length = n) {p : Nat} (hp : p < n) : w.cell? ⟨g, p, none⟩ = some (.int .i64 (d.getD p 0)) := by
  have hx : d[p]? = some (d[p]'(by omega)) := List.getElem?_eq_getElem (by omega)
  have := h.at_ (i := p) (j := 0) (u := .int .i64 (d[p]'(by omega))) hp hx rfl
  rw [List.getD_eq_getElem?_getD, hx]
  simpa using this
theorem Part.int_set {w : World} {g : Nat} {T : TypeId} {n : Nat} {d : List Int} (h : Part w g T n 1 d intC n) {p : Nat} (z : Int) : Part (w.setCell ⟨g, p, none⟩ (.int .i64 z)) g T n 1 (d.set p z) intC n := by
  obtain ⟨c, hc, hz, hx⟩ := h
  refine ⟨c.setIfInBounds p (.int .i64 z), by simp [World.setCell, Array.getElem?_modify, hc], by simpa using hz, fun i x j u hi h1 h2 => ?_⟩
  have hj : j = 0 := by
    have := (List.getElem?_eq_some_iff.1 h2).1
    simp [intC] at this
    exact this
  subst hj
  rw [List.getElem?_set] at h1
  rw [Array.getElem?_setIfInBounds]
  by_cases e : p = i
  · subst e
    rw [if_pos rfl] at h1
    rw [if_pos (by omega), if_pos (by omega)]
    split at h1
    · injection h1 with h1
      subst h1
      simpa [intC] using h2
    · cases h1
  · rw [if_neg e] at h1
    rw [if_neg (by omega)]
    exact hx i x 0 u hi h1 h2
theorem Part.ints_made (w : World) (T : TypeId) (n : Nat) : Part (w.alloc (.cells (madeCells #[Value.int .i64 0] n) T)) w.heap.size T n 1 (List.replicate n (0 : Int)) intC n := by
  refine ⟨_, heap_alloc_new w _, by rw [size_madeCells]; omega, fun i x j u hi h1 h2 => ?_⟩
  rw [List.getElem?_replicate, if_pos hi] at h1
  injection h1 with h1
  subst h1
  have hj : j = 0 := by
    have := (List.getElem?_eq_some_iff.1 h2).1
    simp [intC] at this
    exact this
  subst hj
  simp [intC] at h2
  subst h2
  simp [madeCells, hi, Nat.mod_one]

end Go.Proofs.Ytmjdgplkcocgmaa
