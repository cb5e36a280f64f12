/-
  Plain functions for lines between points; no program in sight.
-/
import Derived.Test.YtmjdgplkcocgmaaPlainA
import Derived.Test.YtmjdgplkcocgmaaPlainT
set_option linter.unusedVariables false
namespace Go.Proofs.Ytmjdgplkcocgmaa

def lineOk (n : Int) (x : Line) : Bool := within x.From 0 (n - 1) && within x.To 0 (n - 1) && (x.From != x.To)
def linesOk (n : Int) (l : List Line) : Bool := within n 1 10 && decide (l.length ≤ 20) && l.all (lineOk n)

theorem all_take_succ {α : Type} {p : α → Bool} {l : List α} {k : Nat} {x : α} (hx : l[k]? = some x) (h : (l.take k).all p = true) (hp : p x = true) : (l.take (k + 1)).all p = true := by
  rw [List.take_add_one, hx, List.all_append, h]
  simp [hp]
theorem all_no {α : Type} {p : α → Bool} {l : List α} {k : Nat} {x : α} (hx : l[k]? = some x) (hp : p x = false) : l.all p = false := by
  rw [List.all_eq_false]
  exact ⟨x, List.mem_of_getElem? hx, by simp [hp]⟩
theorem lines_bad {m : Int} {l : List Line} {k : Nat} {x : Line} (hx : l[k]? = some x) (hp : lineOk m x = false) : false = linesOk m l := by
  unfold linesOk
  rw [all_no hx hp, Bool.and_false]
theorem lines_end {m : Int} {l : List Line} {n : Nat} (hn : l.length = n) (h1 : within m 1 10 = true) (h2 : n ≤ 20) (h : (l.take n).all (lineOk m) = true) : true = linesOk m l := by
  rw [List.take_of_length_le (by omega)] at h
  unfold linesOk
  rw [h, h1, hn]
  simp [h2]

theorem linesOk_parts {m : Int} {l : List Line} (h : linesOk m l = true) : (1 ≤ m ∧ m ≤ 10) ∧ l.length ≤ 20 ∧ l.all (lineOk m) = true := by
  unfold linesOk at h
  rw [Bool.and_eq_true, Bool.and_eq_true] at h
  exact ⟨within_iff.1 h.1.1, by simpa using h.1.2, h.2⟩
theorem lineOk_bd {m : Int} {x : Line} (h : lineOk m x = true) : (0 ≤ x.From ∧ x.From ≤ m - 1) ∧ (0 ≤ x.To ∧ x.To ≤ m - 1) ∧ x.From ≠ x.To := by
  unfold lineOk at h
  rw [Bool.and_eq_true, Bool.and_eq_true] at h
  exact ⟨within_iff.1 h.1.1, within_iff.1 h.1.2, by simpa using h.2⟩
theorem lineOk_at {m : Int} {l : List Line} (h : l.all (lineOk m) = true) {k : Nat} {x : Line} (hx : l[k]? = some x) : lineOk m x = true :=
  List.all_eq_true.1 h x (List.mem_of_getElem? hx)

/-- one more line ends at point i -/
def bump (d : List Int) (i : Nat) : List Int := d.set i (d.getD i 0 + 1)
def endsOf (m : Nat) (l : List Line) : List Int := l.foldl (fun d x => bump (bump d x.From.toNat) x.To.toNat) (List.replicate m 0)
theorem bump_len (d : List Int) (i : Nat) : (bump d i).length = d.length := by simp [bump]
theorem foldl_take_succ {α β : Type} {f : β → α → β} {b : β} {l : List α} {k : Nat} {x : α} (hx : l[k]? = some x) : (l.take (k + 1)).foldl f b = f ((l.take k).foldl f b) x := by
  rw [List.take_add_one, hx, List.foldl_append]
  rfl
theorem endsOf_len (m : Nat) (l : List Line) : (endsOf m l).length = m := by
  have h : ∀ (l : List Line) (d : List Int), (l.foldl (fun d x => bump (bump d x.From.toNat) x.To.toNat) d).length = d.length := by
    intro l
    induction l with
    | nil => intro d; rfl
    | cons x l ih => intro d; rw [List.foldl_cons, ih, bump_len, bump_len]
  unfold endsOf
  rw [h]
  simp
theorem endsOf_succ {m : Nat} {l : List Line} {k : Nat} {x : Line} (hx : l[k]? = some x) : endsOf m (l.take (k + 1)) = bump (bump (endsOf m (l.take k)) x.From.toNat) x.To.toNat := foldl_take_succ hx
theorem bump_bd {d : List Int} {i : Nat} {b : Int} (h : ∀ j, 0 ≤ d.getD j 0 ∧ d.getD j 0 ≤ b) : ∀ j, 0 ≤ (bump d i).getD j 0 ∧ (bump d i).getD j 0 ≤ b + 1 := by
  intro j
  have h1 := h j
  have h2 := h i
  unfold bump
  simp only [List.getD_eq_getElem?_getD, List.getElem?_set] at *
  split
  · split
    · simp; omega
    · simp; omega
  · omega
theorem endsOf_bd (m : Nat) (l : List Line) : ∀ j, 0 ≤ (endsOf m l).getD j 0 ∧ (endsOf m l).getD j 0 ≤ 2 * (l.length : Int) := by
  have h : ∀ (l : List Line) (d : List Int) (b : Int), (∀ j, 0 ≤ d.getD j 0 ∧ d.getD j 0 ≤ b) → ∀ j, 0 ≤ (l.foldl (fun d x => bump (bump d x.From.toNat) x.To.toNat) d).getD j 0 ∧ (l.foldl (fun d x => bump (bump d x.From.toNat) x.To.toNat) d).getD j 0 ≤ b + 2 * (l.length : Int) := by
    intro l
    induction l with
    | nil => intro d b hd j; simpa using hd j
    | cons x l ih =>
      intro d b hd j
      rw [List.foldl_cons]
      have := ih _ _ (bump_bd (i := x.To.toNat) (bump_bd (i := x.From.toNat) hd)) j
      rw [List.length_cons]
      omega
  intro j
  have := h l (List.replicate m 0) 0 (fun j => by simp only [List.getD_eq_getElem?_getD, List.getElem?_replicate]; split <;> simp) j
  unfold endsOf
  omega

theorem bump2 {d : List Int} {p q : Nat} {vp vq : Int} (hne : p ≠ q) (hp : vp = d.getD p 0) (hq : vq = d.getD q 0) : (d.set p (vp + 1)).set q (vq + 1) = bump (bump d p) q := by
  unfold bump
  rw [← hp]
  have : (d.set p (vp + 1)).getD q 0 = d.getD q 0 := by simp [List.getD_eq_getElem?_getD, hne]
  rw [this, hq]

/-- the indices of the odd numbers -/
def oddAt (d : List Int) : List Int := ((List.range d.length).filter fun p => d.getD p 0 % 2 == 1).map fun p : Nat => (p : Int)
def oddUpTo (d : List Int) (k : Nat) : List Int := ((List.range k).filter fun p => d.getD p 0 % 2 == 1).map fun p : Nat => (p : Int)
theorem oddUpTo_succ (d : List Int) (k : Nat) : oddUpTo d (k + 1) = oddUpTo d k ++ (if d.getD k 0 % 2 == 1 then [(k : Int)] else []) := by
  unfold oddUpTo
  rw [List.range_succ, List.filter_append, List.map_append]
  congr 1
  by_cases h : (d.getD k 0 % 2 == 1) = true
  · simp only [List.filter_cons, h, if_true, List.filter_nil, List.map_cons, List.map_nil]
  · simp only [List.filter_cons, h, List.filter_nil]
    rfl
theorem oddUpTo_len (d : List Int) (k : Nat) : (oddUpTo d k).length ≤ k := by
  unfold oddUpTo
  rw [List.length_map]
  have := List.length_filter_le (fun p => d.getD p 0 % 2 == 1) (List.range k)
  simpa using this
def oddPoints (m : Int) (l : List Line) : List Int := if linesOk m l = true then oddUpTo (endsOf m.toNat l) m.toNat else []
theorem oddPoints_len (m : Int) (l : List Line) : (oddPoints m l).length ≤ 10 := by
  unfold oddPoints
  split
  · rename_i h
    have := linesOk_parts h
    have h2 := oddUpTo_len (endsOf m.toNat l) m.toNat
    omega
  · simp

end Go.Proofs.Ytmjdgplkcocgmaa
