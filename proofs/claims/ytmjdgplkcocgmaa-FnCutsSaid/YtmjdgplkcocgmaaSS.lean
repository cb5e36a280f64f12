/-
  Slices of slices of one-cell elements: read (RdSS), and in blocks of the call's own (RowsP, OwnSS).
-/
import Derived.Test.YtmjdgplkcocgmaaAcc
set_option linter.unusedVariables false
namespace Go.Proofs.Ytmjdgplkcocgmaa
open Go.RowKit

/-- The header of a row. -/
structure Hd where
  A : Option Addr
  n : Nat
  c : Nat
instance : Inhabited Hd := ⟨⟨none, 0, 0⟩⟩
def hdC (h : Hd) : List Value := [.slice h.A h.n h.c]
theorem hdC_len (h : Hd) : (hdC h).length = 1 := rfl

def RdSS {α : Type} (w : World) (A : Option Addr) (n : Nat) (rows : List (List α)) (cells : α → List Value) : Prop :=
  rows.length = n ∧ ∃ hs : List Hd, Rd w A n 1 hs hdC ∧ ∀ (i : Nat) (h : Hd) (r : List α), hs[i]? = some h → rows[i]? = some r → h.n ≤ h.c ∧ Rd w h.A h.n 1 r cells

/-- Where the rows lie: each in a block of its own. -/
def RowsP {α : Type} (w : World) (lo hi : Nat) (hs : List Hd) (rows : List (List α)) (cells : α → List Value) : Prop :=
  hs.length = rows.length ∧ (∀ (i : Nat) (h : Hd) (r : List α), hs[i]? = some h → rows[i]? = some r → h.n ≤ h.c ∧ Own w lo hi h.A h.n 1 r cells) ∧
    ∀ (i j : Nat) (h k : Hd) (a b : Addr), hs[i]? = some h → hs[j]? = some k → i ≠ j → h.A = some a → k.A = some b → 0 < h.n → 0 < k.n → a.block ≠ b.block
/-- Block g is none of the rows'. -/
def Off (g : Nat) (hs : List Hd) : Prop := ∀ (i : Nat) (h : Hd) (a : Addr), hs[i]? = some h → h.A = some a → 0 < h.n → a.block ≠ g

def OwnSS {α : Type} (w : World) (lo hi : Nat) (A : Option Addr) (n : Nat) (rows : List (List α)) (cells : α → List Value) : Prop :=
  rows.length = n ∧ ∃ hs : List Hd, Own w lo hi A n 1 hs hdC ∧ RowsP w lo hi hs rows cells ∧ ∀ a, A = some a → 0 < n → Off a.block hs

section
variable {α : Type} {w w' : World} {lo hi : Nat} {A : Option Addr} {n : Nat} {rows : List (List α)} {cells : α → List Value} {hs : List Hd}

theorem RdSS.len (h : RdSS w A n rows cells) : rows.length = n := h.1
theorem RdSS.below (h : RdSS w A n rows cells) (hb : Below w.heap.size w w') : RdSS w' A n rows cells := by
  obtain ⟨h1, hs, h2, h3⟩ := h
  exact ⟨h1, hs, h2.below hb, fun i k r hk hr => ⟨(h3 i k r hk hr).1, (h3 i k r hk hr).2.below hb⟩⟩
theorem RdSS.at_ (h : RdSS w A n rows cells) {k : Nat} (hk : k < n) (hb : Below w.heap.size w w') :
    ∃ b off A' n' c' r, A = some ⟨b, off, none⟩ ∧ b < w.heap.size ∧ rows[k]? = some r ∧ w'.cell? ⟨b, off + k, none⟩ = some (.slice A' n' c') ∧ n' ≤ c' ∧ r.length = n' ∧ Rd w' A' n' 1 r cells := by
  obtain ⟨h1, hs, h2, h3⟩ := h
  obtain ⟨b, off, x, e, hlt, hx, hc⟩ := h2.at1 (v := fun h : Hd => .slice h.A h.n h.c) hk hb
  have hr : rows[k]? = some (rows[k]'(by omega)) := List.getElem?_eq_getElem (by omega)
  obtain ⟨h4, h5⟩ := h3 k x _ hx hr
  exact ⟨b, off, x.A, x.n, x.c, _, e, hlt, hr, hc, h4, h5.len, h5.below hb⟩

theorem Own.only' {sz : Nat} {xs : List α} (h : Own w lo hi A n sz xs cells) {l u : Nat} (ho : Only l u w w') (hd : ∀ g : Nat, A = some ⟨g, 0, none⟩ → 0 < n → g < l ∨ u ≤ g) : Own w' lo hi A n sz xs cells :=
  ⟨h.1, fun hn => by
    obtain ⟨g, T, e, h1, h2, hp⟩ := h.2 hn
    exact ⟨g, T, e, h1, h2, hp.block (ho.block g hp.lt (hd g e hn))⟩⟩
/-- The one block that an owned slice lies in. -/
theorem Own.exact {sz : Nat} {xs : List α} (h : Own w lo hi A n sz xs cells) : ∃ l u, Own w l u A n sz xs cells ∧ (∀ a, A = some a → 0 < n → l = a.block ∧ u = a.block + 1 ∧ lo ≤ l ∧ u ≤ hi) ∧ (n = 0 → l = lo ∧ u = lo) := by
  rcases Nat.eq_zero_or_pos n with hn | hn
  · refine ⟨lo, lo, ⟨h.1, fun h' => absurd h' (by omega)⟩, fun a _ h' => absurd h' (by omega), fun _ => ⟨rfl, rfl⟩⟩
  · obtain ⟨g, T, e, h1, h2, hp⟩ := h.2 hn
    refine ⟨g, g + 1, ⟨h.1, fun _ => ⟨g, T, e, Nat.le_refl _, by omega, hp⟩⟩, fun a ha _ => ?_, fun h' => by omega⟩
    rw [e] at ha
    injection ha with ha
    subst ha
    exact ⟨rfl, rfl, h1, by omega⟩

theorem RowsP.below (h : RowsP w lo hi hs rows cells) (hb : Below w.heap.size w w') : RowsP w' lo hi hs rows cells :=
  ⟨h.1, fun i k r hk hr => ⟨(h.2.1 i k r hk hr).1, (h.2.1 i k r hk hr).2.below hb⟩, h.2.2⟩
theorem RowsP.only (h : RowsP w lo hi hs rows cells) {l u : Nat} (ho : Only l u w w') (hd : hi ≤ l ∨ u ≤ lo) : RowsP w' lo hi hs rows cells :=
  ⟨h.1, fun i k r hk hr => ⟨(h.2.1 i k r hk hr).1, (h.2.1 i k r hk hr).2.only ho hd⟩, h.2.2⟩
theorem RowsP.mono (h : RowsP w lo hi hs rows cells) {lo' hi' : Nat} (h1 : lo' ≤ lo) (h2 : hi ≤ hi') : RowsP w lo' hi' hs rows cells :=
  ⟨h.1, fun i k r hk hr => ⟨(h.2.1 i k r hk hr).1, (h.2.1 i k r hk hr).2.mono h1 h2⟩, h.2.2⟩
/-- A block that grows, or is written, and is none of the rows' (it lies outside [lo, hi), or Off says so). -/
theorem RowsP.off (h : RowsP w lo hi hs rows cells) {g : Nat} (ho : Only g (g + 1) w w') (hd : Off g hs) : RowsP w' lo hi hs rows cells :=
  ⟨h.1, fun i k r hk hr => ⟨(h.2.1 i k r hk hr).1, (h.2.1 i k r hk hr).2.only' ho (fun g' e hn => by have := hd i k _ hk e hn; simp at this; omega)⟩, h.2.2⟩
theorem RowsP.nil (w : World) (lo hi : Nat) (cells : α → List Value) : RowsP w lo hi [] [] cells := ⟨rfl, fun i h r hk => by simp at hk, fun i j h k a b hk => by simp at hk⟩
theorem Off.nil (g : Nat) : Off g [] := fun i h a hk => by simp at hk
/-- A new row behind the others. -/
theorem RowsP.push {mid : Nat} (h : RowsP w lo mid hs rows cells) {x : Hd} {r : List α} (hc : x.n ≤ x.c) (ho : Own w mid hi x.A x.n 1 r cells) (h1 : lo ≤ mid) (h2 : mid ≤ hi) : RowsP w lo hi (hs ++ [x]) (rows ++ [r]) cells := by
  have lt : ∀ (i : Nat) (h' : Hd) (a : Addr), hs[i]? = some h' → h'.A = some a → 0 < h'.n → a.block < mid := fun i h' a hi' ha hn => by
    have hil : i < hs.length := (List.getElem?_eq_some_iff.1 hi').1
    have hr : rows[i]? = some (rows[i]'(by rw [← h.1]; exact hil)) := List.getElem?_eq_getElem _
    obtain ⟨g, T, e, _, hg, _⟩ := (h.2.1 i h' _ hi' hr).2.2 hn
    rw [ha] at e
    injection e with e
    subst e
    exact hg
  have ge : ∀ a, x.A = some a → 0 < x.n → mid ≤ a.block := fun a ha hn => by
    obtain ⟨g, T, e, hg, _⟩ := ho.2 hn
    rw [ha] at e
    injection e with e
    subst e
    exact hg
  have look : ∀ (i : Nat) (h' : Hd), (hs ++ [x])[i]? = some h' → (i < hs.length ∧ hs[i]? = some h') ∨ (i = hs.length ∧ h' = x) := fun i h' hi' => by
    by_cases hl : i < hs.length
    · rw [List.getElem?_append_left hl] at hi'
      exact .inl ⟨hl, hi'⟩
    · rw [List.getElem?_append_right (by omega)] at hi'
      have : i - hs.length = 0 := by
        by_cases e : i - hs.length = 0
        · exact e
        · rw [List.getElem?_eq_none (by simp; omega)] at hi'; cases hi'
      rw [this] at hi'
      simp at hi'
      exact .inr ⟨by omega, hi'.symm⟩
  refine ⟨by simp [h.1], fun i h' r' hi' hr' => ?_, fun i j h' k a b hi' hj' hne ha hb hn hm => ?_⟩
  · rcases look i h' hi' with ⟨hl, h3⟩ | ⟨rfl, rfl⟩
    · rw [List.getElem?_append_left (by rw [← h.1]; exact hl)] at hr'
      exact ⟨(h.2.1 i h' r' h3 hr').1, (h.2.1 i h' r' h3 hr').2.mono (Nat.le_refl _) h2⟩
    · rw [List.getElem?_append_right (by rw [← h.1]; exact Nat.le_refl _), ← h.1, Nat.sub_self] at hr'
      simp at hr'
      subst hr'
      exact ⟨hc, ho.mono h1 (Nat.le_refl _)⟩
  · rcases look i h' hi' with ⟨hl, h3⟩ | ⟨rfl, rfl⟩ <;> rcases look j k hj' with ⟨hl', h4⟩ | ⟨e, rfl⟩
    · exact h.2.2 i j h' k a b h3 h4 hne ha hb hn hm
    · have := lt i h' a h3 ha hn
      have := ge b hb hm
      omega
    · have := lt j k b h4 hb hm
      have := ge a ha hn
      omega
    · exact absurd e.symm hne
theorem Off.push {g mid hi' : Nat} (h : Off g hs) {x : Hd} {r : List α} (ho : Own w mid hi' x.A x.n 1 r cells) (hg : g < mid ∨ hi' ≤ g) : Off g (hs ++ [x]) := by
  intro i h' a hi' ha hn
  by_cases hl : i < hs.length
  · rw [List.getElem?_append_left hl] at hi'
    exact h i h' a hi' ha hn
  · rw [List.getElem?_append_right (by omega)] at hi'
    have : i - hs.length = 0 := by
      by_cases e : i - hs.length = 0
      · exact e
      · rw [List.getElem?_eq_none (by simp; omega)] at hi'; cases hi'
    rw [this] at hi'
    simp at hi'
    subst hi'
    obtain ⟨g', T, e, h1, h2, _⟩ := ho.2 hn
    rw [ha] at e
    injection e with e
    subst e
    simp
    omega
theorem RowsP.off_of {g : Nat} (h : RowsP w lo hi hs rows cells) (hg : g < lo ∨ hi ≤ g) : Off g hs := fun i h' a hi' ha hn => by
  have hil : i < hs.length := (List.getElem?_eq_some_iff.1 hi').1
  have hr : rows[i]? = some (rows[i]'(by rw [← h.1]; exact hil)) := List.getElem?_eq_getElem _
  obtain ⟨g', T, e, h1, h2, _⟩ := (h.2.1 i h' _ hi' hr).2.2 hn
  rw [ha] at e
  injection e with e
  subst e
  simp
  omega

theorem Only.all {l u lo' hi' : Nat} (ho : Only l u w w') (e : l = u) : Only lo' hi' w w' := ⟨ho.os, ho.tape, ho.output, ho.size, fun k hk _ => ho.block k hk (by omega)⟩
/-- One row is written. -/
theorem RowsP.set (h : RowsP w lo hi hs rows cells) {k : Nat} {x : Hd} {r' : List α} (hx : hs[k]? = some x) {l u : Nat} (ho : Only l u w w')
    (hloc : ∀ a, x.A = some a → 0 < x.n → l = a.block ∧ u = a.block + 1 ∧ lo ≤ l ∧ u ≤ hi) (hz : x.n = 0 → l = u) (hown : Own w' l u x.A x.n 1 r' cells) : RowsP w' lo hi hs (rows.set k r') cells := by
  refine ⟨by simp [h.1], fun i y r hy hr => ?_, h.2.2⟩
  rw [List.getElem?_set] at hr
  by_cases e : k = i
  · subst e
    rw [hx] at hy
    injection hy with hy
    subst hy
    rw [if_pos rfl] at hr
    have hkl : k < rows.length := by rw [← h.1]; exact (List.getElem?_eq_some_iff.1 hx).1
    rw [if_pos hkl] at hr
    injection hr with hr
    subst hr
    have hr0 : rows[k]? = some (rows[k]'hkl) := List.getElem?_eq_getElem _
    refine ⟨(h.2.1 k x _ hx hr0).1, hown.1, fun hn => ?_⟩
    obtain ⟨g, T, e, h1, h2, h3⟩ := hown.2 hn
    have := hloc _ e hn
    exact ⟨g, T, e, by omega, by omega, h3⟩
  · rw [if_neg e] at hr
    obtain ⟨h1, h2⟩ := h.2.1 i y r hy hr
    refine ⟨h1, h2.only' ho (fun g hg hn => ?_)⟩
    rcases Nat.eq_zero_or_pos x.n with hxn | hxn
    · have := hz hxn
      omega
    · obtain ⟨g', T, e', _⟩ := hown.2 hxn
      have h4 := hloc _ e' hxn
      have h5 := h.2.2 k i x y _ _ hx hy e e' hg hxn hn
      simp at h4 h5
      omega

theorem OwnSS.len (h : OwnSS w lo hi A n rows cells) : rows.length = n := h.1
theorem OwnSS.rd (h : OwnSS w lo hi A n rows cells) : RdSS w A n rows cells := by
  obtain ⟨h1, hs, h2, h3, _⟩ := h
  exact ⟨h1, hs, h2.rd, fun i k r hk hr => ⟨(h3.2.1 i k r hk hr).1, (h3.2.1 i k r hk hr).2.rd⟩⟩
theorem OwnSS.below (h : OwnSS w lo hi A n rows cells) (hb : Below w.heap.size w w') : OwnSS w' lo hi A n rows cells := by
  obtain ⟨h1, hs, h2, h3, h4⟩ := h
  exact ⟨h1, hs, h2.below hb, h3.below hb, h4⟩
theorem OwnSS.only (h : OwnSS w lo hi A n rows cells) {l u : Nat} (ho : Only l u w w') (hd : hi ≤ l ∨ u ≤ lo) : OwnSS w' lo hi A n rows cells := by
  obtain ⟨h1, hs, h2, h3, h4⟩ := h
  exact ⟨h1, hs, h2.only ho hd, h3.only ho hd, h4⟩
theorem OwnSS.mono (h : OwnSS w lo hi A n rows cells) {lo' hi' : Nat} (h1 : lo' ≤ lo) (h2 : hi ≤ hi') : OwnSS w lo' hi' A n rows cells := by
  obtain ⟨h3, hs, h4, h5, h6⟩ := h
  exact ⟨h3, hs, h4.mono h1 h2, h5.mono h1 h2, h6⟩
theorem OwnSS.nil (w : World) (lo hi : Nat) (A : Option Addr) (cells : α → List Value) : OwnSS w lo hi A 0 [] cells :=
  ⟨rfl, [], Own.nil _ _ _ _ _ _, RowsP.nil _ _ _ _, fun a _ h => absurd h (by omega)⟩
end

/-- What a function leaves that makes a new slice of slices. -/
def MadeSS {α : Type} (W : World) (n : Nat) (rows : List (List α)) (cells : α → List Value) (e : Ending) (w' : World) : Prop :=
  ∃ A c, e = .returned (.slice A n c) ∧ n ≤ c ∧ OwnSS w' W.heap.size w'.heap.size A n rows cells ∧ Below W.heap.size W w'

/-! ### A list of which the first k have been replaced -/
def mixed {α : Type} (M R : List α) (k : Nat) : List α := M.take k ++ R.drop k
theorem mixed_zero {α : Type} (M R : List α) : mixed M R 0 = R := by simp [mixed]
theorem mixed_end {α : Type} {M R : List α} {k : Nat} (hM : M.length = k) (hR : R.length = k) : mixed M R k = M := by
  unfold mixed
  rw [List.take_of_length_le (by omega), List.drop_eq_nil_of_le (by omega), List.append_nil]
theorem mixed_succ {α : Type} {M R : List α} {k : Nat} {r : α} (hr : M[k]? = some r) (hl : k < R.length) : (mixed M R k).set k r = mixed M R (k + 1) := by
  have hk : k < M.length := (List.getElem?_eq_some_iff.1 hr).1
  unfold mixed
  have h1 : (M.take k).length = k := by rw [List.length_take]; omega
  rw [List.set_append_right _ _ (by omega), h1, Nat.sub_self, List.take_add_one, hr, List.drop_eq_getElem_cons hl, List.set_cons_zero, List.append_assoc]
  rfl

/-! ### Lengths -/
def lens {α : Type} (rows : List (List α)) : Nat := (rows.map List.length).sum
theorem lens_take_succ {α : Type} {rows : List (List α)} {k : Nat} {r : List α} (h : rows[k]? = some r) : lens (rows.take (k + 1)) = lens (rows.take k) + r.length := by
  unfold lens
  rw [List.take_add_one, h]
  simp
theorem lens_take_le {α : Type} (rows : List (List α)) (k : Nat) : lens (rows.take k) ≤ lens rows := by
  have h : lens rows = lens (rows.take k) + lens (rows.drop k) := by
    conv => lhs; rw [← List.take_append_drop k rows]
    unfold lens
    rw [List.map_append, List.sum_append]
  omega
theorem lens_at {α : Type} {rows : List (List α)} {k : Nat} {r : List α} (h : rows[k]? = some r) : lens (rows.take k) + r.length ≤ lens rows := by
  have := lens_take_le rows (k + 1)
  rw [lens_take_succ h] at this
  exact this
/-- what the law file's count of sizes leaves, of a slice of slices -/
def szLeftSS {α : Type} (l : Int) (rows : List (List α)) : Int := if l - (rows.length : Int) - (lens rows : Int) < 0 then -1 else l - (rows.length : Int) - (lens rows : Int)
theorem szLeftSS_cases {α : Type} (l : Int) (rows : List (List α)) : (l < (rows.length : Int) + (lens rows : Int) ∧ szLeftSS l rows = -1) ∨ ((rows.length : Int) + (lens rows : Int) ≤ l ∧ szLeftSS l rows = l - (rows.length : Int) - (lens rows : Int)) := by
  unfold szLeftSS
  by_cases h : l - (rows.length : Int) - (lens rows : Int) < 0
  · rw [if_pos h]; exact .inl ⟨by omega, rfl⟩
  · rw [if_neg h]; exact .inr ⟨by omega, rfl⟩

end Go.Proofs.Ytmjdgplkcocgmaa
