/-
  Plain functions for orders of sewing; no program in sight.
-/
import Derived.Test.YtgdnonciobjceaaPlainJ
set_option linter.unusedVariables false
namespace Go.Proofs.Ytgdnonciobjceaa

/-! ### counting -/
theorem fac_bd {k : Nat} (h : k ≤ 11) : 1 ≤ fac k ∧ fac k ≤ 39916800 := by
  have : k = 0 ∨ k = 1 ∨ k = 2 ∨ k = 3 ∨ k = 4 ∨ k = 5 ∨ k = 6 ∨ k = 7 ∨ k = 8 ∨ k = 9 ∨ k = 10 ∨ k = 11 := by omega
  rcases this with rfl | rfl | rfl | rfl | rfl | rfl | rfl | rfl | rfl | rfl | rfl | rfl <;> decide
theorem fac_pos (k : Nat) : 1 ≤ fac k := by
  induction k with
  | zero => decide
  | succ k ih =>
    show 1 ≤ fac k * ((k : Int) + 1)
    have := Int.mul_le_mul ih (show (1 : Int) ≤ (k : Int) + 1 by omega) (by omega) (by omega)
    omega
/-- the sizes of the joins alone -/
def tailOf (n : Nat) (l : List Join) : List Int := (sizesOf n l).drop n
theorem tail_succ {n k : Nat} {l : List Join} {x : Join} (hx : l[k]? = some x) :
    tailOf n (l.take (k + 1)) = tailOf n (l.take k) ++ [1 + (sizesOf n (l.take k)).getD x.A.toNat 0 + (sizesOf n (l.take k)).getD x.B.toNat 0] := by
  have hk : k < l.length := (List.getElem?_eq_some_iff.1 hx).1
  unfold tailOf
  rw [sizes_succ hx]
  unfold sizeStep
  rw [List.drop_append_of_le_length (by rw [sizes_take_len (by omega)]; omega)]
theorem tail_len {n k : Nat} {l : List Join} (hk : k ≤ l.length) : (tailOf n (l.take k)).length = k := by
  unfold tailOf
  rw [List.length_drop, sizes_take_len hk]
  omega
theorem tail_prod {l : List Join} {n : Int} (h : treeOk l n = true) : ∀ k, k ≤ l.length → 1 ≤ prodI (tailOf n.toNat (l.take k)) ∧ prodI (tailOf n.toNat (l.take k)) ≤ fac k := by
  intro k
  induction k with
  | zero =>
    intro _
    have : tailOf n.toNat (l.take 0) = [] := List.eq_nil_of_length_eq_zero (tail_len (Nat.zero_le _))
    rw [this]
    decide
  | succ k ih =>
    intro hk
    have hx : l[k]? = some (l[k]'(by omega)) := List.getElem?_eq_getElem _
    obtain ⟨h1, h2⟩ := ih (by omega)
    obtain ⟨h3, h4, h5⟩ := size_le h hx
    rw [tail_succ hx, prodI_append]
    show 1 ≤ prodI _ * (_ * 1) ∧ prodI _ * (_ * 1) ≤ fac k * ((k : Int) + 1)
    rw [Int.mul_one]
    have hs : 1 ≤ 1 + (sizesOf n.toNat (l.take k)).getD l[k].A.toNat 0 + (sizesOf n.toNat (l.take k)).getD l[k].B.toNat 0 ∧ 1 + (sizesOf n.toNat (l.take k)).getD l[k].A.toNat 0 + (sizesOf n.toNat (l.take k)).getD l[k].B.toNat 0 ≤ (k : Int) + 1 := by omega
    generalize (1 + (sizesOf n.toNat (l.take k)).getD l[k].A.toNat 0 + (sizesOf n.toNat (l.take k)).getD l[k].B.toNat 0) = s at hs ⊢
    have h6 := Int.mul_le_mul h1 hs.1 (by omega) (by omega)
    have h7 := Int.mul_le_mul h2 hs.2 (by omega) (by omega)
    omega
theorem divs_eq : ∀ (ss : List Int) (a : Int), (∀ s ∈ ss, 1 ≤ s) → ss.foldl (· / ·) a = a / prodI ss := by
  intro ss
  induction ss with
  | nil => intro a _; show a = a / 1; rw [Int.ediv_one]
  | cons s ss ih =>
    intro a h
    rw [List.foldl_cons, ih _ fun x hx => h x (List.mem_cons_of_mem _ hx), Int.ediv_ediv_of_nonneg (by have := h s List.mem_cons_self; omega)]
    rfl
theorem tail_at {l : List Join} {n : Int} (h : treeOk l n = true) : ∀ k, k ≤ l.length → ∀ (i : Nat) (s : Int), (tailOf n.toNat (l.take k))[i]? = some s → 1 ≤ s ∧ s ≤ (i : Int) + 1 := by
  intro k
  induction k with
  | zero =>
    intro _ i s hs
    rw [List.eq_nil_of_length_eq_zero (tail_len (Nat.zero_le _))] at hs
    simp at hs
  | succ k ih =>
    intro hk i s hs
    have hx : l[k]? = some (l[k]'(by omega)) := List.getElem?_eq_getElem _
    obtain ⟨h3, h4, h5⟩ := size_le h hx
    have hl := tail_len (n := n.toNat) (l := l) (k := k) (by omega)
    rw [tail_succ hx, List.getElem?_append] at hs
    split at hs
    · exact ih (by omega) i s hs
    · have hi : i = k := by
        have := (List.getElem?_eq_some_iff.1 hs).1
        simp at this
        omega
      subst hi
      rw [hl, Nat.sub_self] at hs
      simp only [List.getElem?_cons_zero, Option.some.injEq] at hs
      omega
theorem tail_all {l : List Join} {n : Int} (h : treeOk l n = true) {i : Nat} {s : Int} (hs : (tailOf n.toNat l)[i]? = some s) : 1 ≤ s ∧ s ≤ (i : Int) + 1 :=
  tail_at h l.length (Nat.le_refl _) i s (by rw [List.take_length]; exact hs)
theorem count_no {l : List Join} {n : Int} (h : treeOk l n = false) : -1 = countOrders l n := by
  unfold countOrders
  rw [h]; rfl
theorem count_divs {l : List Join} {n : Int} (h : treeOk l n = true) : (tailOf n.toNat l).foldl (· / ·) (fac l.length) = countOrders l n := by
  unfold countOrders
  rw [h, if_pos rfl]
  exact divs_eq _ _ fun s hs => by
    obtain ⟨i, hi⟩ := List.getElem?_of_mem hs
    exact (tail_all h hi).1
theorem count_prod {l : List Join} {n : Int} (h : treeOk l n = true) : fac l.length / prodI (tailOf n.toNat l) = countOrders l n := by
  unfold countOrders
  rw [h, if_pos rfl]; rfl
theorem divs_bd {a : Int} {ss : List Int} (ha : 0 ≤ a) (h : ∀ s ∈ ss, 1 ≤ s) : ∀ k, 0 ≤ (ss.take k).foldl (· / ·) a ∧ (ss.take k).foldl (· / ·) a ≤ a := by
  intro k
  induction k with
  | zero => exact ⟨ha, Int.le_refl _⟩
  | succ k ih =>
    by_cases hk : k < ss.length
    · have hx : ss[k]? = some (ss[k]'hk) := List.getElem?_eq_getElem _
      rw [foldl_take_succ' hx]
      have h1 := h _ (List.mem_of_getElem? hx)
      have h2 := Int.ediv_nonneg ih.1 (show 0 ≤ ss[k] by omega)
      have h3 := Int.ediv_le_self ss[k] ih.1
      omega
    · rw [List.take_of_length_le (by omega), ← List.take_of_length_le (show ss.length ≤ k by omega)]
      exact ih
theorem count_ge {l : List Join} {n : Int} (h : treeOk l n = true) : 1 ≤ countOrders l n := by
  have h1 := tail_prod h l.length (Nat.le_refl _)
  rw [List.take_length] at h1
  rw [← count_prod h]
  exact Int.le_ediv_of_mul_le (by omega) (by omega)

/-! ### what is ready -/
def readyU (n : Int) (done : List Int) (u : Int) : Bool := decide (u < n) || done.contains (u - n)
def ready (n : Int) (done : List Int) (j : Join) : Bool := readyU n done j.A && readyU n done j.B
def iota (k : Nat) : List Int := (List.range k).map fun p : Nat => (p : Int)
theorem iota_succ (k : Nat) : iota (k + 1) = iota k ++ [(k : Int)] := by
  unfold iota
  rw [List.range_succ, List.map_append]; rfl
theorem iota_len (k : Nat) : (iota k).length = k := by simp [iota]
theorem iota_at {k i : Nat} (h : i < k) : (iota k)[i]? = some (i : Int) := by simp [iota, h]
theorem iota_has (k : Nat) (x : Int) : (iota k).contains x = decide (0 ≤ x ∧ x < k) := by
  rw [Bool.eq_iff_iff, List.contains_iff_mem, decide_eq_true_iff]
  unfold iota
  rw [List.mem_map]
  constructor
  · rintro ⟨p, hp, rfl⟩
    have := List.mem_range.1 hp
    omega
  · intro h
    exact ⟨x.toNat, List.mem_range.2 (by omega), by omega⟩
theorem ready_iota {l : List Join} {n : Int} (h : treeOk l n = true) {k : Nat} {j : Join} (hj : l[k]? = some j) : ready n (iota k) j = true := by
  obtain ⟨h1, h2⟩ := tree_units h hj
  unfold ready readyU
  rw [iota_has, iota_has, ← Bool.decide_or, ← Bool.decide_or, decide_eq_true (by omega), decide_eq_true (by omega)]; rfl
def firstOrder (l : List Join) (n : Int) : List Int := if treeOk l n then iota l.length else []
theorem first_no {l : List Join} {n : Int} (h : treeOk l n = false) : firstOrder l n = [] := by
  unfold firstOrder
  rw [h]; rfl
theorem first_yes {l : List Join} {n : Int} (h : treeOk l n = true) : firstOrder l n = iota l.length := by
  unfold firstOrder
  rw [h, if_pos rfl]
theorem first_len (l : List Join) (n : Int) : (firstOrder l n).length ≤ 11 := by
  unfold firstOrder
  split
  · rename_i h
    obtain ⟨h1, h2, _⟩ := tree_parts h
    rw [iota_len]; omega
  · simp

/-! ### orders -/
def joinAt (l : List Join) (k : Int) : Join := l.getD k.toNat default
def goodAt (l : List Join) (n : Int) (o : List Int) (i : Nat) : Bool :=
  within (o.getD i 0) 0 ((l.length : Int) - 1) && !(o.take i).contains (o.getD i 0) && ready n (o.take i) (joinAt l (o.getD i 0))
def isOrder (l : List Join) (n : Int) (o : List Int) : Bool := treeOk l n && decide (o.length = l.length) && (List.range o.length).all (goodAt l n o)
theorem order_tree {l : List Join} {n : Int} {o : List Int} (h : treeOk l n = false) : false = isOrder l n o := by
  unfold isOrder
  rw [h]; rfl
theorem order_len {l : List Join} {n : Int} {o : List Int} (h : o.length ≠ l.length) : false = isOrder l n o := by
  unfold isOrder
  rw [decide_eq_false h]; simp
theorem order_bad {l : List Join} {n : Int} {o : List Int} {i : Nat} (hi : i < o.length) (h : goodAt l n o i = false) : false = isOrder l n o := by
  unfold isOrder
  rw [List.all_eq_false.2 ⟨i, List.mem_range.2 hi, by rw [h]; simp⟩, Bool.and_false]
theorem order_end {l : List Join} {n : Int} {o : List Int} (h : treeOk l n = true) (hl : o.length = l.length) (hg : ∀ i, i < o.length → goodAt l n o i = true) : true = isOrder l n o := by
  unfold isOrder
  rw [h, decide_eq_true hl, List.all_eq_true.2 fun i hi => hg i (List.mem_range.1 hi)]; rfl

/-- a number is put into an ascending list -/
def putI : List Int → Int → List Int
  | [], x => [x]
  | y :: ys, x => if x ≤ y then x :: y :: ys else y :: putI ys x
def sortI (l : List Int) : List Int := l.foldl putI []
theorem putI_perm (l : List Int) (x : Int) : (putI l x).Perm (x :: l) := by
  induction l with
  | nil => exact List.Perm.refl _
  | cons y ys ih =>
    unfold putI
    split
    · exact List.Perm.refl _
    · exact (List.Perm.cons y ih).trans (List.Perm.swap x y ys)
theorem putI_len (l : List Int) (x : Int) : (putI l x).length = l.length + 1 := (putI_perm l x).length_eq
theorem sortI_succ {l : List Int} {k : Nat} {x : Int} (hx : l[k]? = some x) : sortI (l.take (k + 1)) = putI (sortI (l.take k)) x := foldl_take_succ' hx
theorem sortI_perm (l : List Int) : (sortI l).Perm l := by
  have h : ∀ (l acc : List Int), (l.foldl putI acc).Perm (acc ++ l) := by
    intro l
    induction l with
    | nil => intro acc; simp
    | cons x l ih =>
      intro acc
      rw [List.foldl_cons]
      refine (ih _).trans ?_
      refine (List.Perm.append_right l (putI_perm acc x)).trans ?_
      exact (List.perm_middle (l₁ := acc) (l₂ := l) (a := x)).symm
  exact h l []
theorem putI_sorted {l : List Int} {x : Int} (h : l.Pairwise (· ≤ ·)) : (putI l x).Pairwise (· ≤ ·) := by
  induction l with
  | nil => simp [putI]
  | cons y ys ih =>
    rw [List.pairwise_cons] at h
    unfold putI
    split
    · rename_i hle
      rw [List.pairwise_cons, List.pairwise_cons]
      refine ⟨fun z hz => ?_, h⟩
      rcases List.mem_cons.1 hz with rfl | hz
      · exact hle
      · have := h.1 z hz
        omega
    · rename_i hle
      rw [List.pairwise_cons]
      refine ⟨fun z hz => ?_, ih h.2⟩
      rcases List.mem_cons.1 ((putI_perm ys x).mem_iff.1 hz) with rfl | hz
      · omega
      · exact h.1 z hz
theorem sortI_sorted (l : List Int) : (sortI l).Pairwise (· ≤ ·) := by
  have h : ∀ (l acc : List Int), acc.Pairwise (· ≤ ·) → (l.foldl putI acc).Pairwise (· ≤ ·) := by
    intro l
    induction l with
    | nil => intro acc h; exact h
    | cons x l ih => intro acc h; exact ih _ (putI_sorted h)
  exact h l [] List.Pairwise.nil
/-- the numbers ascend -/
def ascAt (l : List Int) (i : Nat) : Bool := decide (i = 0) || decide (l.getD (i - 1) 0 < l.getD i 0)
def strictL (l : List Int) (a b : Int) : Bool := (List.range l.length).all (ascAt l) && l.all (fun n => within n a b)
theorem asc_pairwise {l : List Int} (h : (List.range l.length).all (ascAt l) = true) : l.Pairwise (· < ·) := by
  have h1 : ∀ i, 0 < i → (hi : i < l.length) → l[i - 1]'(by omega) < l[i] := fun i h0 hi => by
    have := List.all_eq_true.1 h i (List.mem_range.2 hi)
    unfold ascAt at this
    rw [decide_eq_false (by omega), Bool.false_or] at this
    simpa [List.getD_eq_getElem?_getD, List.getElem?_eq_getElem, hi, (show i - 1 < l.length by omega)] using this
  rw [List.pairwise_iff_getElem]
  intro i j hi hj hij
  induction j with
  | zero => omega
  | succ j ih =>
    have h2 := h1 (j + 1) (by omega) hj
    by_cases e : i = j
    · subst e; exact h2
    · exact Int.lt_trans (ih (by omega) (by omega)) h2
theorem pairwise_asc {l : List Int} (h : l.Pairwise (· < ·)) : (List.range l.length).all (ascAt l) = true := by
  rw [List.all_eq_true]
  intro i hi
  have hi := List.mem_range.1 hi
  unfold ascAt
  by_cases e : i = 0
  · rw [decide_eq_true e]; rfl
  · rw [List.pairwise_iff_getElem] at h
    have := h (i - 1) i (by omega) hi (by omega)
    simp [List.getD_eq_getElem?_getD, hi, (show i - 1 < l.length by omega), this]
theorem strict_sort (o : List Int) (m : Int) : strictL (sortI o) 0 m = true ↔ o.Nodup ∧ ∀ x ∈ o, within x 0 m = true := by
  have hp := sortI_perm o
  unfold strictL
  rw [Bool.and_eq_true, List.all_eq_true (p := fun n => within n 0 m)]
  constructor
  · rintro ⟨h1, h2⟩
    have h3 := asc_pairwise h1
    exact ⟨hp.nodup_iff.1 (h3.imp fun h => by omega), fun x hx => h2 x (hp.mem_iff.2 hx)⟩
  · rintro ⟨h1, h2⟩
    refine ⟨pairwise_asc ?_, fun x hx => h2 x (hp.mem_iff.1 hx)⟩
    have h3 := hp.nodup_iff.2 h1
    exact ((sortI_sorted o).and h3).imp fun h => by omega
theorem nodup_take (o : List Int) : o.Nodup ↔ ∀ i, i < o.length → (o.take i).contains (o.getD i 0) = false := by
  unfold List.Nodup
  rw [List.pairwise_iff_getElem]
  constructor
  · intro h i hi
    rw [← Bool.not_eq_true, List.contains_iff_mem]
    intro hm
    obtain ⟨k, hk⟩ := List.getElem?_of_mem hm
    rw [List.getElem?_take] at hk
    split at hk
    · rename_i hki
      refine h k i (by omega) hi hki ?_
      rw [List.getElem?_eq_getElem (by omega), List.getD_eq_getElem?_getD, List.getElem?_eq_getElem hi] at hk
      simpa using hk
    · cases hk
  · intro h i j hi hj hij e
    have h1 := h j hj
    rw [← Bool.not_eq_true, List.contains_iff_mem] at h1
    refine h1 ?_
    rw [List.getD_eq_getElem?_getD, List.getElem?_eq_getElem hj, Option.getD_some, ← e]
    exact List.mem_of_getElem? (i := i) (by rw [List.getElem?_take, if_pos hij, List.getElem?_eq_getElem hi])
theorem strict_good {l : List Join} {n : Int} {o : List Int} {m : Int} (hm : m = (l.length : Int) - 1) (h : strictL (sortI o) 0 m = true) {i : Nat} (hi : i < o.length) :
    within (o.getD i 0) 0 ((l.length : Int) - 1) = true ∧ goodAt l n o i = ready n (o.take i) (joinAt l (o.getD i 0)) := by
  subst hm
  obtain ⟨h1, h2⟩ := (strict_sort o _).1 h
  have h3 := h2 (o.getD i 0) (by rw [List.getD_eq_getElem?_getD, List.getElem?_eq_getElem hi]; exact List.getElem_mem hi)
  refine ⟨h3, ?_⟩
  unfold goodAt
  rw [h3, (nodup_take o).1 h1 i hi]; simp
theorem strict_bad {l : List Join} {n : Int} {o : List Int} {m : Int} (hm : m = (l.length : Int) - 1) (h : strictL (sortI o) 0 m = false) : false = isOrder l n o := by
  subst hm
  cases hc : isOrder l n o
  · rfl
  · exfalso
    unfold isOrder at hc
    rw [Bool.and_eq_true] at hc
    have hg : ∀ i, i < o.length → goodAt l n o i = true := fun i hi => List.all_eq_true.1 hc.2 i (List.mem_range.2 hi)
    have : strictL (sortI o) 0 ((l.length : Int) - 1) = true := by
      rw [strict_sort]
      refine ⟨(nodup_take o).2 fun i hi => ?_, fun x hx => ?_⟩
      · have := hg i hi
        unfold goodAt at this
        simp only [Bool.and_eq_true] at this
        simpa using this.1.2
      · obtain ⟨i, hi⟩ := List.getElem?_of_mem hx
        have hlt := (List.getElem?_eq_some_iff.1 hi).1
        have := hg i hlt
        unfold goodAt at this
        simp only [Bool.and_eq_true] at this
        have h1 := this.1.1
        rw [List.getD_eq_getElem?_getD, hi] at h1
        exact h1
    rw [this] at h
    cases h

end Go.Proofs.Ytgdnonciobjceaa
