/-
  Slices of blocks (a number and a slice of cells): read (RdB), and in blocks of the call's own (RowsB, OwnB).
-/
import Derived.Test.YtkbpehklfjnjjaaFlatCell
import Derived.Test.YtkbpehklfjnjjaaSS
set_option linter.unusedVariables false
namespace Go.Proofs.Ytkbpehklfjnjjaa
open Go.RowKit

abbrev Blk := Int × List Cell
structure Bd where
  s : Int
  A : Option Addr
  n : Nat
  c : Nat
instance : Inhabited Bd := ⟨⟨0, none, 0, 0⟩⟩
def bdC (h : Bd) : List Value := [.int .i64 h.s, .slice h.A h.n h.c]
theorem bdC_len (h : Bd) : (bdC h).length = 2 := rfl

def RdB (w : World) (A : Option Addr) (n : Nat) (rows : List Blk) : Prop :=
  rows.length = n ∧ ∃ hs : List Bd, Rd w A n 2 hs bdC ∧ ∀ (i : Nat) (h : Bd) (r : Blk), hs[i]? = some h → rows[i]? = some r → (h.s = r.1 ∧ h.n ≤ h.c) ∧ Rd w h.A h.n 3 r.2 cellC

/-- Where the rows lie: each in a block of its own. -/
def RowsB (w : World) (lo hi : Nat) (hs : List Bd) (rows : List Blk) : Prop :=
  hs.length = rows.length ∧ (∀ (i : Nat) (h : Bd) (r : Blk), hs[i]? = some h → rows[i]? = some r → (h.s = r.1 ∧ h.n ≤ h.c) ∧ Own w lo hi h.A h.n 3 r.2 cellC) ∧
    ∀ (i j : Nat) (h k : Bd) (a b : Addr), hs[i]? = some h → hs[j]? = some k → i ≠ j → h.A = some a → k.A = some b → 0 < h.n → 0 < k.n → a.block ≠ b.block
/-- Block g is none of the rows'. -/
def OffB (g : Nat) (hs : List Bd) : Prop := ∀ (i : Nat) (h : Bd) (a : Addr), hs[i]? = some h → h.A = some a → 0 < h.n → a.block ≠ g

def OwnB (w : World) (lo hi : Nat) (A : Option Addr) (n : Nat) (rows : List Blk) : Prop :=
  rows.length = n ∧ ∃ hs : List Bd, Own w lo hi A n 2 hs bdC ∧ RowsB w lo hi hs rows ∧ ∀ a, A = some a → 0 < n → OffB a.block hs

section
variable {w w' : World} {lo hi : Nat} {A : Option Addr} {n : Nat} {rows : List Blk} {hs : List Bd}

theorem RdB.len (h : RdB w A n rows) : rows.length = n := h.1
theorem RdB.below (h : RdB w A n rows) (hb : Below w.heap.size w w') : RdB w' A n rows := by
  obtain ⟨h1, hs, h2, h3⟩ := h
  exact ⟨h1, hs, h2.below hb, fun i k r hk hr => ⟨(h3 i k r hk hr).1, (h3 i k r hk hr).2.below hb⟩⟩
theorem RdB.at_ (h : RdB w A n rows) {k : Nat} (hk : k < n) (hb : Below w.heap.size w w') :
    ∃ b off s A' n' c' cs, A = some ⟨b, off, none⟩ ∧ b < w.heap.size ∧ rows[k]? = some (s, cs) ∧ w'.cell? ⟨b, off + k * 2, none⟩ = some (.int .i64 s) ∧ w'.cell? ⟨b, off + k * 2 + 1, none⟩ = some (.slice A' n' c') ∧ n' ≤ c' ∧ cs.length = n' ∧ Rd w' A' n' 3 cs cellC := by
  obtain ⟨h1, hs, h2, h3⟩ := h
  obtain ⟨b, off, x, e, hlt, hx, hc⟩ := h2.at_ hk
  have hw : ∀ j u, (bdC x)[j]? = some u → w'.cell? ⟨b, off + (k * 2 + j), none⟩ = some u := fun j u hu => (hb.cell (p := ⟨b, _, none⟩) hlt).trans (hc j u hu)
  have hr : rows[k]? = some (rows[k]'(by omega)) := List.getElem?_eq_getElem (by omega)
  obtain ⟨⟨h4, h5⟩, h6⟩ := h3 k x _ hx hr
  refine ⟨b, off, x.s, x.A, x.n, x.c, (rows[k]'(by omega)).2, e, hlt, ?_, hw 0 _ rfl, hw 1 _ rfl, h5, h6.len, h6.below hb⟩
  rw [hr, h4]

theorem RowsB.below (h : RowsB w lo hi hs rows) (hb : Below w.heap.size w w') : RowsB w' lo hi hs rows :=
  ⟨h.1, fun i k r hk hr => ⟨(h.2.1 i k r hk hr).1, (h.2.1 i k r hk hr).2.below hb⟩, h.2.2⟩
theorem RowsB.only (h : RowsB w lo hi hs rows) {l u : Nat} (ho : Only l u w w') (hd : hi ≤ l ∨ u ≤ lo) : RowsB w' lo hi hs rows :=
  ⟨h.1, fun i k r hk hr => ⟨(h.2.1 i k r hk hr).1, (h.2.1 i k r hk hr).2.only ho hd⟩, h.2.2⟩
theorem RowsB.mono (h : RowsB w lo hi hs rows) {lo' hi' : Nat} (h1 : lo' ≤ lo) (h2 : hi ≤ hi') : RowsB w lo' hi' hs rows :=
  ⟨h.1, fun i k r hk hr => ⟨(h.2.1 i k r hk hr).1, (h.2.1 i k r hk hr).2.mono h1 h2⟩, h.2.2⟩
/-- A block that grows, or is written, and is none of the rows' (it lies outside [lo, hi), or OffB says so). -/
theorem RowsB.off (h : RowsB w lo hi hs rows) {g : Nat} (ho : Only g (g + 1) w w') (hd : OffB g hs) : RowsB w' lo hi hs rows :=
  ⟨h.1, fun i k r hk hr => ⟨(h.2.1 i k r hk hr).1, (h.2.1 i k r hk hr).2.only' ho (fun g' e hn => by have := hd i k _ hk e hn; simp at this; omega)⟩, h.2.2⟩
theorem RowsB.nil (w : World) (lo hi : Nat) : RowsB w lo hi [] [] := ⟨rfl, fun i h r hk => by simp at hk, fun i j h k a b hk => by simp at hk⟩
theorem OffB.nil (g : Nat) : OffB g [] := fun i h a hk => by simp at hk
/-- A new row behind the others. -/
theorem RowsB.push {mid : Nat} (h : RowsB w lo mid hs rows) {x : Bd} {r : Blk} (hc : x.s = r.1 ∧ x.n ≤ x.c) (ho : Own w mid hi x.A x.n 3 r.2 cellC) (h1 : lo ≤ mid) (h2 : mid ≤ hi) : RowsB w lo hi (hs ++ [x]) (rows ++ [r]) := by
  have lt : ∀ (i : Nat) (h' : Bd) (a : Addr), hs[i]? = some h' → h'.A = some a → 0 < h'.n → a.block < mid := fun i h' a hi' ha hn => by
    have hil : i < hs.length := (List.getElem?_eq_some_iff.1 hi').1
    have hr : rows[i]? = some (rows[i]'(by rw [← h.1]; exact hil)) := List.getElem?_eq_getElem _
    obtain ⟨g, T, e, _, hg, _⟩ := (h.2.1 i h' _ hi' hr).2.2 hn
    rw [ha] at e
    injection e with e
    subst e
    exact hg
  have ge : ∀ a, x.A = some a → 0 < x.n → mid ≤ a.block := fun a ha hn => by
    obtain ⟨g, T, e, hg, _⟩ := ho.2 hn
    rw [ha] at e
    injection e with e
    subst e
    exact hg
  have look : ∀ (i : Nat) (h' : Bd), (hs ++ [x])[i]? = some h' → (i < hs.length ∧ hs[i]? = some h') ∨ (i = hs.length ∧ h' = x) := fun i h' hi' => by
    by_cases hl : i < hs.length
    · rw [List.getElem?_append_left hl] at hi'
      exact .inl ⟨hl, hi'⟩
    · rw [List.getElem?_append_right (by omega)] at hi'
      have : i - hs.length = 0 := by
        by_cases e : i - hs.length = 0
        · exact e
        · rw [List.getElem?_eq_none (by simp; omega)] at hi'; cases hi'
      rw [this] at hi'
      simp at hi'
      exact .inr ⟨by omega, hi'.symm⟩
  refine ⟨by simp [h.1], fun i h' r' hi' hr' => ?_, fun i j h' k a b hi' hj' hne ha hb hn hm => ?_⟩
  · rcases look i h' hi' with ⟨hl, h3⟩ | ⟨rfl, rfl⟩
    · rw [List.getElem?_append_left (by rw [← h.1]; exact hl)] at hr'
      exact ⟨(h.2.1 i h' r' h3 hr').1, (h.2.1 i h' r' h3 hr').2.mono (Nat.le_refl _) h2⟩
    · rw [List.getElem?_append_right (by rw [← h.1]; exact Nat.le_refl _), ← h.1, Nat.sub_self] at hr'
      simp at hr'
      subst hr'
      exact ⟨hc, ho.mono h1 (Nat.le_refl _)⟩
  · rcases look i h' hi' with ⟨hl, h3⟩ | ⟨rfl, rfl⟩ <;> rcases look j k hj' with ⟨hl', h4⟩ | ⟨e, rfl⟩
    · exact h.2.2 i j h' k a b h3 h4 hne ha hb hn hm
    · have := lt i h' a h3 ha hn
      have := ge b hb hm
      omega
    · have := lt j k b h4 hb hm
      have := ge a ha hn
      omega
    · exact absurd e.symm hne
theorem OffB.push {g mid hi' : Nat} (h : OffB g hs) {x : Bd} {r : Blk} (ho : Own w mid hi' x.A x.n 3 r.2 cellC) (hg : g < mid ∨ hi' ≤ g) : OffB g (hs ++ [x]) := by
  intro i h' a hi' ha hn
  by_cases hl : i < hs.length
  · rw [List.getElem?_append_left hl] at hi'
    exact h i h' a hi' ha hn
  · rw [List.getElem?_append_right (by omega)] at hi'
    have : i - hs.length = 0 := by
      by_cases e : i - hs.length = 0
      · exact e
      · rw [List.getElem?_eq_none (by simp; omega)] at hi'; cases hi'
    rw [this] at hi'
    simp at hi'
    subst hi'
    obtain ⟨g', T, e, h1, h2, _⟩ := ho.2 hn
    rw [ha] at e
    injection e with e
    subst e
    simp
    omega
theorem RowsB.off_of {g : Nat} (h : RowsB w lo hi hs rows) (hg : g < lo ∨ hi ≤ g) : OffB g hs := fun i h' a hi' ha hn => by
  have hil : i < hs.length := (List.getElem?_eq_some_iff.1 hi').1
  have hr : rows[i]? = some (rows[i]'(by rw [← h.1]; exact hil)) := List.getElem?_eq_getElem _
  obtain ⟨g', T, e, h1, h2, _⟩ := (h.2.1 i h' _ hi' hr).2.2 hn
  rw [ha] at e
  injection e with e
  subst e
  simp
  omega

theorem OwnB.len (h : OwnB w lo hi A n rows) : rows.length = n := h.1
theorem OwnB.rd (h : OwnB w lo hi A n rows) : RdB w A n rows := by
  obtain ⟨h1, hs, h2, h3, _⟩ := h
  exact ⟨h1, hs, h2.rd, fun i k r hk hr => ⟨(h3.2.1 i k r hk hr).1, (h3.2.1 i k r hk hr).2.rd⟩⟩
theorem OwnB.below (h : OwnB w lo hi A n rows) (hb : Below w.heap.size w w') : OwnB w' lo hi A n rows := by
  obtain ⟨h1, hs, h2, h3, h4⟩ := h
  exact ⟨h1, hs, h2.below hb, h3.below hb, h4⟩
theorem OwnB.only (h : OwnB w lo hi A n rows) {l u : Nat} (ho : Only l u w w') (hd : hi ≤ l ∨ u ≤ lo) : OwnB w' lo hi A n rows := by
  obtain ⟨h1, hs, h2, h3, h4⟩ := h
  exact ⟨h1, hs, h2.only ho hd, h3.only ho hd, h4⟩
theorem OwnB.mono (h : OwnB w lo hi A n rows) {lo' hi' : Nat} (h1 : lo' ≤ lo) (h2 : hi ≤ hi') : OwnB w lo' hi' A n rows := by
  obtain ⟨h3, hs, h4, h5, h6⟩ := h
  exact ⟨h3, hs, h4.mono h1 h2, h5.mono h1 h2, h6⟩
theorem OwnB.nil (w : World) (lo hi : Nat) (A : Option Addr) : OwnB w lo hi A 0 [] :=
  ⟨rfl, [], Own.nil _ _ _ _ _ _, RowsB.nil _ _ _, fun a _ h => absurd h (by omega)⟩
end

/-- What a function leaves that makes a new slice of slices. -/
def MadeB (W : World) (n : Nat) (rows : List Blk) (e : Ending) (w' : World) : Prop :=
  ∃ A c, e = .returned (.slice A n c) ∧ n ≤ c ∧ OwnB w' W.heap.size w'.heap.size A n rows ∧ Below W.heap.size W w'


end Go.Proofs.Ytkbpehklfjnjjaa
