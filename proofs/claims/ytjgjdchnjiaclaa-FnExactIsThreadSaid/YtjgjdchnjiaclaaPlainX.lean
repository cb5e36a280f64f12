/-
  Plain functions for a walk over all lines; no program in sight.
-/
import Derived.Test.YtjgjdchnjiaclaaPlainP
set_option linter.unusedVariables false
namespace Go.Proofs.Ytjgjdchnjiaclaa

def same (a b c d : Int) : Bool := (a == c && b == d) || (a == d && b == c)
def fits (a b : Int) (x : Line) : Bool := same x.From x.To a b
theorem same_iff {a b c d : Int} : same a b c d = true ↔ (a = c ∧ b = d) ∨ (a = d ∧ b = c) := by simp [same]
theorem fits_same {a b c d : Int} {x : Line} (h : fits a b x = true) : fits c d x = same a b c d := by
  have h := same_iff.1 h
  unfold fits
  rw [Bool.eq_iff_iff, same_iff, same_iff]
  omega
def wAt (w : List Int) (i : Nat) : Int := w.getD i 0
/-- how many of the first i steps go over a line between a and b -/
def gone (w : List Int) (a b : Int) (i : Nat) : Nat := cnt (fun k => same (wAt w k) (wAt w (k + 1)) a b) i
theorem gone_succ (w : List Int) (a b : Int) (i : Nat) : gone w a b (i + 1) = gone w a b i + (if same (wAt w i) (wAt w (i + 1)) a b then 1 else 0) := rfl
def stepOk (l : List Line) (w : List Int) (i : Nat) : Bool := decide (gone w (wAt w i) (wAt w (i + 1)) i < l.countP (fits (wAt w i) (wAt w (i + 1))))
def isThread (n : Int) (l : List Line) (w : List Int) : Bool :=
  linesOk n l && decide (w.length = l.length + 1) && within (wAt w 0) 0 (n - 1) && (List.range l.length).all (stepOk l w)
theorem thread_no1 {n : Int} {l : List Line} {w : List Int} (h : linesOk n l = false) : false = isThread n l w := by
  unfold isThread
  rw [h]; rfl
theorem thread_no2 {n : Int} {l : List Line} {w : List Int} (h : w.length ≠ l.length + 1) : false = isThread n l w := by
  unfold isThread
  rw [decide_eq_false h]; simp
theorem thread_no3 {n : Int} {l : List Line} {w : List Int} {i : Nat} (hi : i < l.length) (h : stepOk l w i = false) : false = isThread n l w := by
  unfold isThread
  rw [List.all_eq_false.2 ⟨i, List.mem_range.2 hi, by rw [h]; simp⟩, Bool.and_false]
theorem thread_end {n : Int} {l : List Line} {w : List Int} (h : linesOk n l = true) (hl : w.length = l.length + 1) (hs : ∀ i, i < l.length → stepOk l w i = true) : within (wAt w 0) 0 (n - 1) = isThread n l w := by
  unfold isThread
  rw [h, decide_eq_true hl, List.all_eq_true.2 fun i hi => hs i (List.mem_range.1 hi)]
  simp
theorem step_in {n : Int} {l : List Line} {w : List Int} (h : linesOk n l = true) {i : Nat} (hs : stepOk l w i = true) : within (wAt w i) 0 (n - 1) = true ∧ within (wAt w (i + 1)) 0 (n - 1) = true := by
  unfold stepOk at hs
  rw [decide_eq_true_iff] at hs
  obtain ⟨x, hx, hf⟩ := List.countP_pos_iff.1 (show 0 < l.countP (fits (wAt w i) (wAt w (i + 1))) by omega)
  have h1 := lineOk_bd (List.all_eq_true.1 (linesOk_parts h).2.2 x hx)
  have h2 := same_iff.1 hf
  rw [within_iff, within_iff]
  omega
theorem thread_out {n : Int} {l : List Line} {w : List Int} (h : linesOk n l = true) (hl : w.length = l.length + 1) {i : Nat} (hi : i < w.length) (hw : within (wAt w i) 0 (n - 1) = false) : false = isThread n l w := by
  by_cases e : i = 0
  · subst e
    unfold isThread
    rw [hw]; simp
  · cases hs : stepOk l w (i - 1)
    · exact thread_no3 (by omega) hs
    · have := (step_in h hs).2
      rw [show i - 1 + 1 = i by omega, hw] at this
      cases this

/-! ### the list of lines that are left -/
def LeftOk (l left : List Line) (w : List Int) (i : Nat) : Prop := left.length + i = l.length ∧ ∀ a b, left.countP (fits a b) + gone w a b i = l.countP (fits a b)
theorem left_zero (l : List Line) (w : List Int) : LeftOk l l w 0 := ⟨rfl, fun a b => rfl⟩
theorem countP_erase {p : Line → Bool} : ∀ {l : List Line} {k : Nat} {x : Line}, l[k]? = some x → (l.eraseIdx k).countP p + (if p x then 1 else 0) = l.countP p := by
  intro l
  induction l with
  | nil => intro k x h; simp at h
  | cons y l ih =>
    intro k x h
    cases k with
    | zero =>
      simp at h
      subst h
      rw [List.eraseIdx_cons_zero, List.countP_cons]
    | succ k =>
      have := ih (k := k) (by simpa using h)
      rw [List.eraseIdx_cons_succ, List.countP_cons, List.countP_cons]
      omega
theorem left_none {l left : List Line} {w : List Int} {i : Nat} (h : LeftOk l left w i) (hn : left.countP (fits (wAt w i) (wAt w (i + 1))) = 0) : stepOk l w i = false := by
  have := h.2 (wAt w i) (wAt w (i + 1))
  unfold stepOk
  rw [decide_eq_false_iff_not]
  omega
theorem left_some {l left : List Line} {w : List Int} {i k : Nat} {x : Line} (h : LeftOk l left w i) (hx : left[k]? = some x) (hf : fits (wAt w i) (wAt w (i + 1)) x = true) :
    stepOk l w i = true ∧ LeftOk l (left.eraseIdx k) w (i + 1) := by
  have hk := (List.getElem?_eq_some_iff.1 hx).1
  constructor
  · have h1 := h.2 (wAt w i) (wAt w (i + 1))
    have h2 := countP_erase (p := fits (wAt w i) (wAt w (i + 1))) hx
    rw [hf, if_pos rfl] at h2
    unfold stepOk
    rw [decide_eq_true_iff]
    omega
  · refine ⟨by rw [List.length_eraseIdx, if_pos hk]; have := h.1; omega, fun a b => ?_⟩
    have h1 := h.2 a b
    have h2 := countP_erase (p := fits a b) hx
    rw [fits_same hf] at h2
    rw [gone_succ]
    omega
theorem countP_take_none {p : Line → Bool} {l : List Line} {k : Nat} {x : Line} (hx : l[k]? = some x) (h : (l.take k).countP p = 0) (hp : p x = false) : (l.take (k + 1)).countP p = 0 := by
  rw [List.take_add_one, hx, List.countP_append, h]
  simp [hp]

/-! ### flags at the lines that have been used -/
def free (l : List Line) (u : List Bool) (a b : Int) (k : Nat) : Bool := fits a b (l.getD k default) && !u.getD k false
def FlagOk (l : List Line) (u : List Bool) (w : List Int) (i : Nat) : Prop := u.length = l.length ∧ ∀ a b, cnt (free l u a b) l.length + gone w a b i = l.countP (fits a b)
theorem countP_cnt (p : Line → Bool) (l : List Line) : l.countP p = cnt (fun k => p (l.getD k default)) l.length := by
  have main : ∀ k, k ≤ l.length → (l.take k).countP p = cnt (fun k => p (l.getD k default)) k := by
    intro k
    induction k with
    | zero => intro _; rfl
    | succ k ih =>
      intro hk
      have hx : l[k]? = some (l[k]'(by omega)) := List.getElem?_eq_getElem _
      rw [List.take_add_one, hx, List.countP_append, ih (by omega)]
      show _ = cnt _ k + (if p (l.getD k default) then 1 else 0)
      rw [List.getD_eq_getElem?_getD, hx]
      simp
  have := main l.length (Nat.le_refl _)
  rwa [List.take_length] at this
theorem cnt_cong {p q : Nat → Bool} (n : Nat) (h : ∀ i, i < n → p i = q i) : cnt p n = cnt q n := by
  induction n with
  | zero => rfl
  | succ n ih => unfold cnt; rw [ih fun i hi => h i (by omega), h n (by omega)]
theorem cnt_off {p q : Nat → Bool} {n k : Nat} (hk : k < n) (hp : p k = true) (hq : q k = false) (h : ∀ i, i ≠ k → p i = q i) : cnt p n = cnt q n + 1 := by
  induction n with
  | zero => omega
  | succ n ih =>
    unfold cnt
    by_cases e : k = n
    · subst e
      rw [cnt_cong (p := p) (q := q) k fun i hi => h i (by omega), hp, hq]; rfl
    · rw [ih (by omega), h n (by omega)]
      omega
theorem cnt_none {p : Nat → Bool} {n : Nat} (h : ∀ i, i < n → p i = false) : cnt p n = 0 := by
  induction n with
  | zero => rfl
  | succ n ih => rw [cnt_no (h n (by omega)), ih fun i hi => h i (by omega)]
theorem flag_zero (l : List Line) (w : List Int) : FlagOk l (List.replicate l.length false) w 0 := by
  refine ⟨by simp, fun a b => ?_⟩
  show cnt _ _ + 0 = _
  rw [countP_cnt, Nat.add_zero]
  refine cnt_cong _ fun i hi => ?_
  unfold free
  rw [List.getD_eq_getElem?_getD (l := List.replicate _ _), List.getElem?_replicate]
  split <;> simp
theorem flag_none {l : List Line} {u : List Bool} {w : List Int} {i : Nat} (h : FlagOk l u w i) (hn : ∀ k, k < l.length → free l u (wAt w i) (wAt w (i + 1)) k = false) : stepOk l w i = false := by
  have := h.2 (wAt w i) (wAt w (i + 1))
  rw [cnt_none hn] at this
  unfold stepOk
  rw [decide_eq_false_iff_not]
  omega
theorem flag_some {l : List Line} {u : List Bool} {w : List Int} {i k : Nat} (h : FlagOk l u w i) (hk : k < l.length) (hf : free l u (wAt w i) (wAt w (i + 1)) k = true) :
    stepOk l w i = true ∧ FlagOk l (u.set k true) w (i + 1) := by
  have hlen := h.1
  have hset : ∀ j, (u.set k true).getD j false = (decide (j = k) || u.getD j false) := fun j => by
    simp only [List.getD_eq_getElem?_getD, List.getElem?_set]
    by_cases e : k = j
    · subst e; rw [if_pos rfl, if_pos (by omega)]; simp
    · rw [if_neg e]; simp [Ne.symm e]
  have hff : fits (wAt w i) (wAt w (i + 1)) (l.getD k default) = true ∧ u.getD k false = false := by
    unfold free at hf
    rw [Bool.and_eq_true] at hf
    exact ⟨hf.1, by simpa using hf.2⟩
  have one : ∀ a b, cnt (free l u a b) l.length = cnt (free l (u.set k true) a b) l.length + (if same (wAt w i) (wAt w (i + 1)) a b then 1 else 0) := fun a b => by
    have hs := fits_same (c := a) (d := b) hff.1
    by_cases e : same (wAt w i) (wAt w (i + 1)) a b = true
    · rw [if_pos e]
      refine cnt_off hk ?_ ?_ fun j hj => ?_
      · unfold free; rw [hs, e, hff.2]; rfl
      · unfold free; rw [hset]; simp
      · unfold free; rw [hset]; simp [hj]
    · rw [if_neg e, Nat.add_zero]
      refine cnt_cong _ fun j hj => ?_
      unfold free
      rw [hset]
      by_cases ej : j = k
      · subst ej
        rw [hs, show same (wAt w i) (wAt w (i + 1)) a b = false by simpa using e]; simp
      · simp [ej]
  constructor
  · have h1 := h.2 (wAt w i) (wAt w (i + 1))
    have h2 := one (wAt w i) (wAt w (i + 1))
    rw [if_pos (by rw [same_iff]; omega)] at h2
    unfold stepOk
    rw [decide_eq_true_iff]
    omega
  · refine ⟨by rw [List.length_set]; exact hlen, fun a b => ?_⟩
    have h1 := h.2 a b
    have h2 := one a b
    rw [gone_succ]
    omega

end Go.Proofs.Ytjgjdchnjiaclaa
