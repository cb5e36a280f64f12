/-
  Plain functions for joins: depth, trees, counts of orders; no program in sight.
-/
import Derived.Test.YtmjdgplkcocgmaaPlainA
import Derived.Test.YtmjdgplkcocgmaaPlainT
set_option linter.unusedVariables false
namespace Go.Proofs.Ytmjdgplkcocgmaa

/-! ### steps that may fail -/
def runL {σ α : Type} (f : σ → α → Option σ) : σ → List α → Option σ
  | s, [] => some s
  | s, x :: xs => match f s x with
    | none => none
    | some t => runL f t xs
section
variable {σ α : Type} {f : σ → α → Option σ}
theorem runL_append (s : σ) (a b : List α) : runL f s (a ++ b) = (runL f s a).bind fun t => runL f t b := by
  induction a generalizing s with
  | nil => rfl
  | cons x a ih =>
    simp only [List.cons_append, runL]
    cases h : f s x with
    | none => rfl
    | some t => exact ih t
theorem runL_take_succ {s : σ} {xs : List α} {k : Nat} {x : α} (h : xs[k]? = some x) : runL f s (xs.take (k + 1)) = (runL f s (xs.take k)).bind fun t => f t x := by
  rw [List.take_add_one, h, runL_append]
  congr 1
  funext t
  show (match f t x with | none => none | some t => some t) = f t x
  cases f t x <;> rfl
theorem runL_step {s t u : σ} {xs : List α} {k : Nat} {x : α} (h : xs[k]? = some x) (hp : runL f s (xs.take k) = some t) (hx : f t x = some u) : runL f s (xs.take (k + 1)) = some u := by
  rw [runL_take_succ h, hp]
  exact hx
theorem runL_none {s : σ} {xs : List α} {k : Nat} (h : runL f s (xs.take k) = none) : runL f s xs = none := by
  conv => lhs; rw [← List.take_append_drop k xs]
  rw [runL_append, h]
  rfl
theorem runL_fail {s t : σ} {xs : List α} {k : Nat} {x : α} (h : xs[k]? = some x) (hp : runL f s (xs.take k) = some t) (hx : f t x = none) : runL f s xs = none := by
  refine runL_none (k := k + 1) ?_
  rw [runL_take_succ h, hp]
  exact hx
theorem runL_full {s : σ} {xs : List α} {k : Nat} (h : xs.length ≤ k) : runL f s (xs.take k) = runL f s xs := by rw [List.take_of_length_le h]
/-- what holds at the start and is kept by each step holds at the end -/
theorem runL_inv {xs : List α} (I : Nat → σ → Prop) {s u : σ} (h0 : I 0 s) (hs : ∀ k x t v, xs[k]? = some x → I k t → f t x = some v → I (k + 1) v) (h : runL f s xs = some u) : I xs.length u := by
  have main : ∀ k, k ≤ xs.length → ∀ v, runL f s (xs.take k) = some v → I k v := by
    intro k
    induction k with
    | zero => intro _ v hv; injection hv with hv; exact hv ▸ h0
    | succ k ih =>
      intro hk v hv
      have hx : xs[k]? = some (xs[k]'(by omega)) := List.getElem?_eq_getElem _
      rw [runL_take_succ hx] at hv
      cases ht : runL f s (xs.take k) with
      | none => rw [ht] at hv; cases hv
      | some t => rw [ht] at hv; exact hs k _ t v hx (ih (by omega) t ht) hv
  exact main _ (Nat.le_refl _) u (by rw [List.take_length]; exact h)
theorem runL_some_take {s u : σ} {xs : List α} (h : runL f s xs = some u) (k : Nat) : ∃ t, runL f s (xs.take k) = some t := by
  cases ht : runL f s (xs.take k) with
  | none => rw [runL_none ht] at h; cases h
  | some t => exact ⟨t, rfl⟩
end

/-! ### the depth -/
def depStep (d : List Int) (j : Join) : Option (List Int) :=
  if within j.A 0 ((d.length : Int) - 1) && within j.B 0 ((d.length : Int) - 1) then some (d ++ [1 + max (d.getD j.A.toNat 0) (d.getD j.B.toNat 0)]) else none
def depths (n : Nat) (l : List Join) : Option (List Int) := runL depStep (List.replicate n 0) l
def lastOf (d : List Int) : Int := d.getD (d.length - 1) 0
def sizeOk (n : Int) (m : Nat) : Bool := within n 1 12 && decide ((m : Int) = n - 1)
def depthOf (l : List Join) (n : Int) : Int := if sizeOk n l.length then (match depths n.toNat l with | some d => lastOf d | none => -1) else -1

theorem sizeOk_parts {n : Int} {m : Nat} (h : sizeOk n m = true) : (1 ≤ n ∧ n ≤ 12) ∧ (m : Int) = n - 1 := by
  unfold sizeOk at h
  rw [Bool.and_eq_true] at h
  exact ⟨within_iff.1 h.1, by simpa using h.2⟩
theorem depStep_yes {d : List Int} {j : Join} (ha : within j.A 0 ((d.length : Int) - 1) = true) (hb : within j.B 0 ((d.length : Int) - 1) = true) : depStep d j = some (d ++ [1 + max (d.getD j.A.toNat 0) (d.getD j.B.toNat 0)]) := by
  unfold depStep
  rw [ha, hb]; rfl
theorem depStep_noA {d : List Int} {j : Join} (ha : within j.A 0 ((d.length : Int) - 1) = false) : depStep d j = none := by
  unfold depStep
  rw [ha]; rfl
theorem depStep_noB {d : List Int} {j : Join} (hb : within j.B 0 ((d.length : Int) - 1) = false) : depStep d j = none := by
  unfold depStep
  rw [hb, Bool.and_false]; rfl
theorem depStep_inv {d v : List Int} {j : Join} (h : depStep d j = some v) : (0 ≤ j.A ∧ j.A ≤ (d.length : Int) - 1) ∧ (0 ≤ j.B ∧ j.B ≤ (d.length : Int) - 1) ∧ v = d ++ [1 + max (d.getD j.A.toNat 0) (d.getD j.B.toNat 0)] := by
  unfold depStep at h
  split at h
  · rename_i hc
    rw [Bool.and_eq_true] at hc
    injection h with h
    exact ⟨within_iff.1 hc.1, within_iff.1 hc.2, h.symm⟩
  · cases h
theorem depth_no {l : List Join} {n : Int} (h : sizeOk n l.length = false) : -1 = depthOf l n := by
  unfold depthOf
  rw [h]; rfl
theorem depth_bad {l : List Join} {n : Int} {m : Nat} (hn : n.toNat = m) (h : depths m l = none) : -1 = depthOf l n := by
  unfold depthOf
  split
  · rw [hn, h]
  · rfl
theorem depth_end {l : List Join} {n : Int} {m : Nat} {d : List Int} (hs : sizeOk n l.length = true) (hn : n.toNat = m) (h : depths m l = some d) : lastOf d = depthOf l n := by
  unfold depthOf
  rw [hs, if_pos rfl, hn, h]
theorem getD_push (d : List Int) (x : Int) (i : Nat) : (d ++ [x]).getD i 0 = if i < d.length then d.getD i 0 else if i = d.length then x else 0 := by
  simp only [List.getD_eq_getElem?_getD]
  by_cases h : i < d.length
  · rw [if_pos h, List.getElem?_append_left h]
  · rw [if_neg h, List.getElem?_append_right (by omega)]
    by_cases e : i = d.length
    · rw [if_pos e, e, Nat.sub_self]; rfl
    · rw [if_neg e, List.getElem?_eq_none (by simp; omega)]; rfl
theorem getD_rep0 (n i : Nat) : (List.replicate n (0 : Int)).getD i 0 = 0 := by
  simp only [List.getD_eq_getElem?_getD, List.getElem?_replicate]
  split <;> rfl
/-- after k joins there are n + k units, of depth k or less -/
theorem depths_bd {n : Nat} {l : List Join} {d : List Int} (h : depths n l = some d) : d.length = n + l.length ∧ ∀ i, 0 ≤ d.getD i 0 ∧ d.getD i 0 ≤ l.length := by
  refine runL_inv (fun k d => d.length = n + k ∧ ∀ i, 0 ≤ d.getD i 0 ∧ d.getD i 0 ≤ (k : Int)) ⟨by simp, fun i => by rw [getD_rep0]; omega⟩ (fun k x t v hx hI hv => ?_) h
  obtain ⟨h1, h2, rfl⟩ := depStep_inv hv
  refine ⟨by simp; omega, fun i => ?_⟩
  rw [getD_push]
  have ha := hI.2 x.A.toNat
  have hb := hI.2 x.B.toNat
  have hi := hI.2 i
  split
  · omega
  · split <;> omega
theorem depths_take {n : Nat} {l : List Join} {d : List Int} (h : depths n l = some d) (k : Nat) : ∃ t, depths n (l.take k) = some t := runL_some_take h k
/-- each join is made of earlier units -/
theorem depths_units {n : Nat} {l : List Join} {d : List Int} (h : depths n l = some d) {k : Nat} {j : Join} (hj : l[k]? = some j) : (0 ≤ j.A ∧ j.A < (n : Int) + k) ∧ (0 ≤ j.B ∧ j.B < (n : Int) + k) := by
  obtain ⟨t, ht⟩ := depths_take h k
  have hk : k < l.length := (List.getElem?_eq_some_iff.1 hj).1
  have hl := (depths_bd ht).1
  rw [List.length_take, Nat.min_eq_left (by omega)] at hl
  cases hs : depStep t j with
  | none =>
    have := runL_fail hj ht hs
    unfold depths at h
    rw [this] at h
    cases h
  | some v =>
    obtain ⟨h1, h2, _⟩ := depStep_inv hs
    omega

/-! ### trees: each unit is in one join at most -/
def useStep (u : List Bool) (j : Join) : Option (List Bool) :=
  if j.A == j.B || u.getD j.A.toNat false || u.getD j.B.toNat false then none else some ((u.set j.A.toNat true).set j.B.toNat true)
def uses (n : Nat) (l : List Join) : Option (List Bool) := runL useStep (List.replicate (2 * n) false) l
def treeOk (l : List Join) (n : Int) : Bool := decide (0 ≤ depthOf l n) && (uses n.toNat l).isSome
theorem useStep_yes {u : List Bool} {j : Join} (h : (j.A == j.B) = false) (ha : u.getD j.A.toNat false = false) (hb : u.getD j.B.toNat false = false) : useStep u j = some ((u.set j.A.toNat true).set j.B.toNat true) := by
  unfold useStep
  rw [h, ha, hb]; rfl
theorem useStep_no {u : List Bool} {j : Join} (h : (j.A == j.B) = true ∨ u.getD j.A.toNat false = true ∨ u.getD j.B.toNat false = true) : useStep u j = none := by
  unfold useStep
  rcases h with h | h | h <;> rw [h] <;> simp
theorem useStep_inv {u v : List Bool} {j : Join} (h : useStep u j = some v) : j.A ≠ j.B ∧ u.getD j.A.toNat false = false ∧ u.getD j.B.toNat false = false ∧ v = (u.set j.A.toNat true).set j.B.toNat true := by
  unfold useStep at h
  split at h
  · cases h
  · rename_i hc
    simp at hc
    injection h with h
    simp only [List.getD_eq_getElem?_getD]
    exact ⟨hc.1.1, hc.1.2, hc.2, h.symm⟩
theorem uses_len {n : Nat} {l : List Join} {u : List Bool} (h : uses n l = some u) : u.length = 2 * n :=
  runL_inv (fun _ u => u.length = 2 * n) (by simp) (fun k x t v _ hI hv => by obtain ⟨_, _, _, rfl⟩ := useStep_inv hv; simpa using hI) h
theorem tree_no1 {l : List Join} {n : Int} (h : depthOf l n < 0) : false = treeOk l n := by
  unfold treeOk
  rw [decide_eq_false (by omega)]; rfl
theorem tree_no2 {l : List Join} {n : Int} {m : Nat} (hn : n.toNat = m) (h : uses m l = none) : false = treeOk l n := by
  unfold treeOk
  rw [hn, h]; simp
theorem tree_yes {l : List Join} {n : Int} {m : Nat} {u : List Bool} (hd : 0 ≤ depthOf l n) (hn : n.toNat = m) (h : uses m l = some u) : true = treeOk l n := by
  unfold treeOk
  rw [hn, h, decide_eq_true hd]; rfl
theorem depth_parts {l : List Join} {n : Int} (h : 0 ≤ depthOf l n) : sizeOk n l.length = true ∧ ∃ d, depths n.toNat l = some d := by
  unfold depthOf at h
  split at h
  · rename_i hs
    refine ⟨hs, ?_⟩
    cases hd : depths n.toNat l with
    | none => rw [hd] at h; exact absurd h (by decide)
    | some d => exact ⟨d, rfl⟩
  · exact absurd h (by decide)
theorem tree_parts {l : List Join} {n : Int} (h : treeOk l n = true) : (1 ≤ n ∧ n ≤ 12) ∧ (l.length : Int) = n - 1 ∧ (∃ d, depths n.toNat l = some d) ∧ ∃ u, uses n.toNat l = some u := by
  unfold treeOk at h
  rw [Bool.and_eq_true] at h
  obtain ⟨hs, hd⟩ := depth_parts (by simpa using h.1)
  exact ⟨(sizeOk_parts hs).1, (sizeOk_parts hs).2, hd, Option.isSome_iff_exists.1 h.2⟩
theorem tree_units {l : List Join} {n : Int} (h : treeOk l n = true) {k : Nat} {j : Join} (hj : l[k]? = some j) : (0 ≤ j.A ∧ j.A < n + k) ∧ (0 ≤ j.B ∧ j.B < n + k) := by
  obtain ⟨h1, _, ⟨d, hd⟩, _⟩ := tree_parts h
  have := depths_units hd hj
  omega

/-! ### how many orders -/
def sizeStep (s : List Int) (j : Join) : List Int := s ++ [1 + s.getD j.A.toNat 0 + s.getD j.B.toNat 0]
def sizesOf (n : Nat) (l : List Join) : List Int := l.foldl sizeStep (List.replicate n 0)
def fac : Nat → Int
  | 0 => 1
  | k + 1 => fac k * ((k : Int) + 1)
def prodI : List Int → Int
  | [] => 1
  | x :: xs => x * prodI xs
def countOrders (l : List Join) (n : Int) : Int := if treeOk l n then fac l.length / prodI ((sizesOf n.toNat l).drop n.toNat) else -1
theorem prodI_append (a b : List Int) : prodI (a ++ b) = prodI a * prodI b := by
  induction a with
  | nil => simp [prodI]
  | cons x a ih => show x * prodI (a ++ b) = x * prodI a * prodI b; rw [ih, Int.mul_assoc]
theorem foldl_take_succ' {α β : Type} {f : β → α → β} {b : β} {l : List α} {k : Nat} {x : α} (hx : l[k]? = some x) : (l.take (k + 1)).foldl f b = f ((l.take k).foldl f b) x := by
  rw [List.take_add_one, hx, List.foldl_append]
  rfl
theorem sizes_succ {n : Nat} {l : List Join} {k : Nat} {x : Join} (hx : l[k]? = some x) : sizesOf n (l.take (k + 1)) = sizeStep (sizesOf n (l.take k)) x := foldl_take_succ' hx
theorem sizes_len (n : Nat) (l : List Join) : (sizesOf n l).length = n + l.length := by
  have h : ∀ (l : List Join) (s : List Int), (l.foldl sizeStep s).length = s.length + l.length := by
    intro l
    induction l with
    | nil => intro s; rfl
    | cons x l ih => intro s; rw [List.foldl_cons, ih]; simp [sizeStep]; omega
  unfold sizesOf
  rw [h]
  simp
theorem sizes_take_len {n k : Nat} {l : List Join} (hk : k ≤ l.length) : (sizesOf n (l.take k)).length = n + k := by rw [sizes_len, List.length_take, Nat.min_eq_left hk]

def sumZ (f : Nat → Int) : Nat → Int
  | 0 => 0
  | n + 1 => sumZ f n + f n
theorem sumZ_congr {f g : Nat → Int} (n : Nat) (h : ∀ i, i < n → f i = g i) : sumZ f n = sumZ g n := by
  induction n with
  | zero => rfl
  | succ n ih => unfold sumZ; rw [ih fun i hi => h i (by omega), h n (by omega)]
theorem sumZ_change {f g : Nat → Int} {a n : Nat} (ha : a < n) (h : ∀ i, i ≠ a → f i = g i) : sumZ g n = sumZ f n - f a + g a := by
  induction n with
  | zero => omega
  | succ n ih =>
    unfold sumZ
    by_cases e : a = n
    · subst e
      rw [sumZ_congr (f := g) (g := f) a fun i hi => (h i (by omega)).symm]
      omega
    · rw [ih (by omega), h n (by omega)]
      omega
theorem sumZ_nonneg {f : Nat → Int} (n : Nat) (h : ∀ i, 0 ≤ f i) : 0 ≤ sumZ f n := by
  induction n with
  | zero => exact Int.le_refl _
  | succ n ih => unfold sumZ; have := h n; omega
theorem sumZ_two {f : Nat → Int} {a b n : Nat} (h : ∀ i, 0 ≤ f i) (ha : a < n) (hb : b < n) (hne : a ≠ b) : f a + f b ≤ sumZ f n := by
  have h1 := sumZ_change (f := f) (g := fun i => if i = a then 0 else f i) ha (fun i hi => by simp [hi])
  have h2 := sumZ_change (f := fun i => if i = a then 0 else f i) (g := fun i => if i = b then 0 else if i = a then 0 else f i) hb (fun i hi => by simp [hi])
  have h3 := sumZ_nonneg (f := fun i => if i = b then 0 else if i = a then 0 else f i) n (fun i => by
    show (0 : Int) ≤ if i = b then 0 else if i = a then 0 else f i
    split
    · omega
    · split
      · omega
      · exact h i)
  simp only [if_true, if_neg (Ne.symm hne)] at h1 h2
  omega
/-- the sizes of the units that are in no join yet -/
def freeOf (u : List Bool) (s : List Int) (i : Nat) : Int := if u.getD i false then 0 else s.getD i 0
theorem getD_set2 (u : List Bool) (a b i : Nat) (ha : a < u.length) (hb : b < u.length) : ((u.set a true).set b true).getD i false = (decide (i = a) || decide (i = b) || u.getD i false) := by
  simp only [List.getD_eq_getElem?_getD, List.getElem?_set, List.length_set]
  by_cases h1 : b = i
  · subst h1
    rw [if_pos rfl, if_pos hb]
    simp
  · rw [if_neg h1]
    by_cases h2 : a = i
    · subst h2
      rw [if_pos rfl, if_pos ha]
      simp
    · rw [if_neg h2]
      simp [Ne.symm h1, Ne.symm h2]
theorem getD_set_same {u : List Bool} {a : Nat} (h : a < u.length) : (u.set a true).getD a false = true := by
  rw [List.getD_eq_getElem?_getD, List.getElem?_set, if_pos rfl, if_pos h]; rfl
structure TreeInv (n : Nat) (l : List Join) (k : Nat) (u : List Bool) : Prop where
  low : ∀ i, 0 ≤ (sizesOf n (l.take k)).getD i 0
  new : ∀ i, n + k ≤ i → u.getD i false = false
  sum : sumZ (freeOf u (sizesOf n (l.take k))) (n + k) = k
theorem tree_inv {l : List Join} {n : Int} (h : treeOk l n = true) : ∀ k, k ≤ l.length → ∃ u, uses n.toNat (l.take k) = some u ∧ TreeInv n.toNat l k u := by
  obtain ⟨hn, hl, ⟨d, hd⟩, ⟨u0, hu0⟩⟩ := tree_parts h
  intro k
  induction k with
  | zero =>
    intro _
    refine ⟨_, rfl, ⟨fun i => ?_, fun i _ => ?_, ?_⟩⟩
    · show 0 ≤ (List.replicate n.toNat (0 : Int)).getD i 0
      rw [getD_rep0]; omega
    · simp only [List.getD_eq_getElem?_getD, List.getElem?_replicate]
      split <;> rfl
    · have h0 : ∀ m, sumZ (freeOf (List.replicate (2 * n.toNat) false) (List.replicate n.toNat 0)) m = 0 := by
        intro m
        induction m with
        | zero => rfl
        | succ m ih =>
          unfold sumZ
          rw [ih]
          unfold freeOf
          rw [getD_rep0]
          split <;> rfl
      exact h0 _
  | succ k ih =>
    intro hk
    obtain ⟨u, hu, hI⟩ := ih (by omega)
    have hx : l[k]? = some (l[k]'(by omega)) := List.getElem?_eq_getElem _
    obtain ⟨v, hv⟩ := runL_some_take hu0 (k + 1)
    have hv' := hv
    rw [runL_take_succ hx] at hv
    unfold uses at hu
    rw [hu] at hv
    have hlen := uses_len (n := n.toNat) hu
    obtain ⟨hne, ha, hb, rfl⟩ := useStep_inv (show useStep u _ = some v from hv)
    have hr := tree_units h hx
    generalize (l[k]'(by omega)) = j at *
    have hA : j.A.toNat < n.toNat + k := by omega
    have hB : j.B.toNat < n.toNat + k := by omega
    have hlu : n.toNat + k < u.length := by omega
    have hgu := getD_set2 u j.A.toNat j.B.toNat (ha := by omega) (hb := by omega)
    have hss : sizesOf n.toNat (l.take (k + 1)) = _ := sizes_succ hx
    have hsl := sizes_take_len (n := n.toNat) (l := l) (k := k) (by omega)
    have hlA := hI.low j.A.toNat
    have hlB := hI.low j.B.toNat
    refine ⟨_, hv', ⟨fun i => ?_, fun i hi => ?_, ?_⟩⟩
    · rw [hss]
      unfold sizeStep
      rw [getD_push]
      have := hI.low i
      split
      · exact this
      · split <;> omega
    · rw [hgu, hI.new i (by omega)]
      simp
      omega
    · have hne' : j.A.toNat ≠ j.B.toNat := by omega
      have h1 := sumZ_change (f := freeOf u (sizesOf n.toNat (l.take k))) (g := freeOf (u.set j.A.toNat true) (sizesOf n.toNat (l.take k))) (n := n.toNat + k) hA (fun i hi => by
        unfold freeOf
        simp only [List.getD_eq_getElem?_getD, List.getElem?_set, if_neg (Ne.symm hi)])
      have h2 := sumZ_change (f := freeOf (u.set j.A.toNat true) (sizesOf n.toNat (l.take k))) (g := freeOf ((u.set j.A.toNat true).set j.B.toNat true) (sizesOf n.toNat (l.take k))) (n := n.toNat + k) hB (fun i hi => by
        unfold freeOf
        simp only [List.getD_eq_getElem?_getD, List.getElem?_set, if_neg (Ne.symm hi)])
      have e1 : freeOf u (sizesOf n.toNat (l.take k)) j.A.toNat = (sizesOf n.toNat (l.take k)).getD j.A.toNat 0 := by unfold freeOf; rw [ha]; rfl
      have e2 : freeOf (u.set j.A.toNat true) (sizesOf n.toNat (l.take k)) j.A.toNat = 0 := by
        unfold freeOf
        rw [getD_set_same (by omega)]; rfl
      have e3 : freeOf (u.set j.A.toNat true) (sizesOf n.toNat (l.take k)) j.B.toNat = (sizesOf n.toNat (l.take k)).getD j.B.toNat 0 := by
        unfold freeOf
        rw [show (u.set j.A.toNat true).getD j.B.toNat false = false by rw [List.getD_eq_getElem?_getD, List.getElem?_set, if_neg hne', ← List.getD_eq_getElem?_getD]; exact hb]
        rfl
      have e4 : freeOf ((u.set j.A.toNat true).set j.B.toNat true) (sizesOf n.toNat (l.take k)) j.B.toNat = 0 := by
        unfold freeOf
        rw [hgu]; simp
      have h3 : sumZ (freeOf ((u.set j.A.toNat true).set j.B.toNat true) (sizesOf n.toNat (l.take (k + 1)))) (n.toNat + k) = sumZ (freeOf ((u.set j.A.toNat true).set j.B.toNat true) (sizesOf n.toNat (l.take k))) (n.toNat + k) := sumZ_congr _ fun i hi => by
        unfold freeOf
        rw [hss]
        unfold sizeStep
        rw [getD_push, hsl, if_pos hi]
      have e5 : freeOf ((u.set j.A.toNat true).set j.B.toNat true) (sizesOf n.toNat (l.take (k + 1))) (n.toNat + k) = 1 + (sizesOf n.toNat (l.take k)).getD j.A.toNat 0 + (sizesOf n.toNat (l.take k)).getD j.B.toNat 0 := by
        have hfl : ((u.set j.A.toNat true).set j.B.toNat true).getD (n.toNat + k) false = false := by
          rw [hgu, hI.new _ (Nat.le_refl _), decide_eq_false (by omega), decide_eq_false (by omega)]; rfl
        unfold freeOf
        rw [hfl, hss]
        unfold sizeStep
        rw [getD_push, hsl]
        simp
      have h0 := hI.sum
      show sumZ _ (n.toNat + k) + freeOf _ _ (n.toNat + k) = _
      rw [h3, e5, h2, h1, h0, e1, e2, e3, e4]
      omega
/-- a join of a tree has at most as many joins in it as there are up to it -/
theorem size_le {l : List Join} {n : Int} (h : treeOk l n = true) {k : Nat} {j : Join} (hj : l[k]? = some j) :
    0 ≤ (sizesOf n.toNat (l.take k)).getD j.A.toNat 0 ∧ 0 ≤ (sizesOf n.toNat (l.take k)).getD j.B.toNat 0 ∧ (sizesOf n.toNat (l.take k)).getD j.A.toNat 0 + (sizesOf n.toNat (l.take k)).getD j.B.toNat 0 ≤ (k : Int) := by
  have hk : k < l.length := (List.getElem?_eq_some_iff.1 hj).1
  obtain ⟨u, hu, hI⟩ := tree_inv h k (by omega)
  obtain ⟨hn, hl, ⟨d, hd⟩, ⟨u0, hu0⟩⟩ := tree_parts h
  have hr := tree_units h hj
  obtain ⟨v, hv⟩ := runL_some_take hu0 (k + 1)
  rw [runL_take_succ hj] at hv
  unfold uses at hu
  rw [hu] at hv
  obtain ⟨hne, ha, hb, rfl⟩ := useStep_inv (show useStep u _ = some v from hv)
  have h0 : ∀ i, 0 ≤ freeOf u (sizesOf n.toNat (l.take k)) i := fun i => by
    unfold freeOf
    have := hI.low i
    split <;> omega
  have h2 := sumZ_two (a := j.A.toNat) (b := j.B.toNat) (n := n.toNat + k) h0 (by omega) (by omega) (by omega)
  rw [hI.sum] at h2
  unfold freeOf at h2
  rw [ha, hb] at h2
  exact ⟨hI.low _, hI.low _, h2⟩

end Go.Proofs.Ytmjdgplkcocgmaa
