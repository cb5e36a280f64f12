/-
  Plain functions for rounds of sewing; no program in sight.
-/
import Derived.Test.YtgdnonciobjceaaPlainO
set_option linter.unusedVariables false
namespace Go.Proofs.Ytgdnonciobjceaa

/-- the depth of join k -/
def dp (d : List Int) (n k : Nat) : Int := d.getD (n + k) 0
theorem depths_succ {n : Nat} {l : List Join} {k : Nat} {j : Join} {t v : List Int} (hj : l[k]? = some j) (ht : depths n (l.take k) = some t) (hv : depths n (l.take (k + 1)) = some v) :
    v = t ++ [1 + max (t.getD j.A.toNat 0) (t.getD j.B.toNat 0)] := by
  unfold depths at *
  rw [runL_take_succ hj, ht] at hv
  exact (depStep_inv hv).2.2
theorem depths_prefix {n : Nat} {l : List Join} {d : List Int} (h : depths n l = some d) : ∀ k, k ≤ l.length → depths n (l.take k) = some (d.take (n + k)) := by
  have main : ∀ q k, k + q = l.length → depths n (l.take k) = some (d.take (n + k)) := by
    intro q
    induction q with
    | zero =>
      intro k hk
      rw [List.take_of_length_le (by omega), h, List.take_of_length_le (by rw [(depths_bd h).1]; omega)]
    | succ q ih =>
      intro k hk
      have h1 := ih (k + 1) (by omega)
      obtain ⟨t, ht⟩ := depths_take h k
      have hj : l[k]? = some (l[k]'(by omega)) := List.getElem?_eq_getElem _
      have h2 := depths_succ hj ht h1
      have h3 := (depths_bd ht).1
      rw [List.length_take, Nat.min_eq_left (by omega)] at h3
      rw [ht]
      congr 1
      have h4 : (d.take (n + (k + 1))).take (n + k) = d.take (n + k) := by rw [List.take_take, Nat.min_eq_left (by omega)]
      rw [← h4, h2, List.take_append_of_le_length (by omega), List.take_of_length_le (by omega)]
  intro k hk
  exact main (l.length - k) k (by omega)
theorem getD_take {d : List Int} {a i : Nat} (h : i < a) : (d.take a).getD i 0 = d.getD i 0 := by
  simp only [List.getD_eq_getElem?_getD, List.getElem?_take, if_pos h]
/-- of what the depths are made -/
theorem dp_eq {n : Nat} {l : List Join} {d : List Int} (h : depths n l = some d) {k : Nat} {j : Join} (hj : l[k]? = some j) : dp d n k = 1 + max (d.getD j.A.toNat 0) (d.getD j.B.toNat 0) := by
  have hk := (List.getElem?_eq_some_iff.1 hj).1
  have h1 := depths_prefix h k (by omega)
  have h2 := depths_prefix h (k + 1) (by omega)
  have h3 := depths_succ hj h1 h2
  have h4 := depths_units h hj
  have hl := (depths_bd h).1
  unfold dp
  rw [← getD_take (a := n + (k + 1)) (show n + k < n + (k + 1) by omega), h3, getD_push, List.length_take, Nat.min_eq_left (by omega), if_neg (by omega), if_pos rfl, getD_take (by omega), getD_take (by omega)]
theorem d_leaf {n : Nat} {l : List Join} {d : List Int} (h : depths n l = some d) {u : Nat} (hu : u < n) : d.getD u 0 = 0 := by
  have h1 := depths_prefix h 0 (Nat.zero_le _)
  have h2 : List.replicate n (0 : Int) = d.take n := by
    have : some (List.replicate n (0 : Int)) = some (d.take (n + 0)) := h1
    injection this
  rw [← getD_take hu, ← h2, getD_rep0]
theorem dp_pos {n : Nat} {l : List Join} {d : List Int} (h : depths n l = some d) {k : Nat} (hk : k < l.length) : 1 ≤ dp d n k := by
  have hj : l[k]? = some (l[k]'hk) := List.getElem?_eq_getElem _
  rw [dp_eq h hj]
  have := (depths_bd h).2 l[k].A.toNat
  omega
theorem dp_unit {n : Nat} {d : List Int} {u : Int} {hu : (n : Int) ≤ u} : d.getD u.toNat 0 = dp d n (u - n).toNat := by
  unfold dp
  congr 1
  omega

def isAt (d : List Int) (n : Nat) (r : Nat) (i : Int) : Bool := decide (dp d n i.toNat = (r : Int) + 1)
def roundAt (d : List Int) (n m r : Nat) : List Int := (iota m).filter (isAt d n r)
def rounds (d : List Int) (n m R : Nat) : List (List Int) := (List.range R).map (roundAt d n m)
def maxDep (d : List Int) (n : Nat) : Nat → Nat
  | 0 => 0
  | k + 1 => max (maxDep d n k) (dp d n k).toNat
def chainRounds (l : List Join) (n : Int) : List (List Int) :=
  if treeOk l n then (match depths n.toNat l with | some d => rounds d n.toNat l.length (maxDep d n.toNat l.length) | none => []) else []
theorem chain_no {l : List Join} {n : Int} (h : treeOk l n = false) : chainRounds l n = [] := by
  unfold chainRounds
  rw [h]; rfl
theorem chain_yes {l : List Join} {n : Int} {d : List Int} (h : treeOk l n = true) (hd : depths n.toNat l = some d) : chainRounds l n = rounds d n.toNat l.length (maxDep d n.toNat l.length) := by
  unfold chainRounds
  rw [h, if_pos rfl, hd]
theorem round_succ (d : List Int) (n k r : Nat) : roundAt d n (k + 1) r = roundAt d n k r ++ (if dp d n k = (r : Int) + 1 then [(k : Int)] else []) := by
  unfold roundAt
  rw [iota_succ, List.filter_append]
  congr 1
  unfold isAt
  by_cases h : dp d n k = (r : Int) + 1
  · rw [if_pos h]; simp [h]
  · rw [if_neg h]; simp [h]
theorem rounds_succ (d : List Int) (n m R : Nat) : rounds d n m (R + 1) = rounds d n m R ++ [roundAt d n m R] := by
  unfold rounds
  rw [List.range_succ, List.map_append]; rfl
theorem rounds_len (d : List Int) (n m R : Nat) : (rounds d n m R).length = R := by simp [rounds]
theorem rounds_at {d : List Int} {n m R r : Nat} (h : r < R) : (rounds d n m R)[r]? = some (roundAt d n m r) := by simp [rounds, h]
theorem round_len (d : List Int) (n m r : Nat) : (roundAt d n m r).length ≤ m := by
  unfold roundAt
  have := List.length_filter_le (isAt d n r) (iota m)
  rw [iota_len] at this
  exact this
theorem maxDep_le {d : List Int} {n : Nat} : ∀ k, ∀ i, i < k → (dp d n i).toNat ≤ maxDep d n k := by
  intro k
  induction k with
  | zero => intro i hi; omega
  | succ k ih =>
    intro i hi
    unfold maxDep
    by_cases e : i = k
    · subst e; omega
    · have := ih i (by omega); omega
theorem maxDep_lt {d : List Int} {n : Nat} : ∀ k r, r < maxDep d n k → ∃ i, i < k ∧ (r : Int) < dp d n i := by
  intro k
  induction k with
  | zero => intro r h; unfold maxDep at h; omega
  | succ k ih =>
    intro r h
    unfold maxDep at h
    by_cases e : r < maxDep d n k
    · obtain ⟨i, hi, h2⟩ := ih r e
      exact ⟨i, by omega, h2⟩
    · exact ⟨k, by omega, by omega⟩
theorem round_nil {d : List Int} {n k r : Nat} (h : maxDep d n k ≤ r) : roundAt d n k r = [] := by
  unfold roundAt
  rw [List.filter_eq_nil_iff]
  intro i hi
  unfold isAt
  have h1 : ∃ p : Nat, p < k ∧ i = p := by
    unfold iota at hi
    obtain ⟨p, hp, rfl⟩ := List.mem_map.1 hi
    exact ⟨p, List.mem_range.1 hp, rfl⟩
  obtain ⟨p, hp, rfl⟩ := h1
  have := maxDep_le (d := d) (n := n) k p hp
  rw [Int.toNat_natCast]
  simp
  omega
/-- as many empty rounds as are wanted -/
theorem rounds_pad {d : List Int} {n k R : Nat} (h : maxDep d n k ≤ R) : rounds d n k (R + 1) = rounds d n k R ++ [[]] := by
  rw [rounds_succ, round_nil h]
theorem dp_le_max {n : Nat} {l : List Join} {d : List Int} (h : depths n l = some d) {k : Nat} (hk : k < l.length) : dp d n k ≤ (maxDep d n k : Int) + 1 := by
  have hj : l[k]? = some (l[k]'hk) := List.getElem?_eq_getElem _
  have hu := depths_units h hj
  have key : ∀ u : Int, 0 ≤ u → u < (n : Int) + k → d.getD u.toNat 0 ≤ maxDep d n k := fun u h0 h1 => by
    by_cases e : u < n
    · rw [d_leaf h (by omega)]; omega
    · rw [dp_unit (n := n) (hu := by omega)]
      have := maxDep_le (d := d) (n := n) k (u - n).toNat (by omega)
      omega
  rw [dp_eq h hj]
  have := key _ hu.1.1 hu.1.2
  have := key _ hu.2.1 hu.2.2
  omega
theorem rounds_put {d : List Int} {n k R q : Nat} (hq : dp d n k = (q : Int) + 1) (hR : q < R) : (rounds d n k R).set q (roundAt d n k q ++ [(k : Int)]) = rounds d n (k + 1) R := by
  apply List.ext_getElem?
  intro i
  rw [List.getElem?_set, rounds_len]
  by_cases e : q = i
  · subst e
    rw [if_pos rfl, if_pos hR, rounds_at hR, round_succ, if_pos hq]
  · rw [if_neg e]
    by_cases hi : i < R
    · rw [rounds_at hi, rounds_at hi, round_succ, if_neg (by omega), List.append_nil]
    · rw [List.getElem?_eq_none (by rw [rounds_len]; omega), List.getElem?_eq_none (by rw [rounds_len]; omega)]

/-! ### what has been sewn after r rounds -/
def doneOf (d : List Int) (n m r : Nat) : List Int := (rounds d n m r).flatten
theorem done_succ (d : List Int) (n m r : Nat) : doneOf d n m (r + 1) = doneOf d n m r ++ roundAt d n m r := by
  unfold doneOf
  rw [rounds_succ, List.flatten_append]
  simp
theorem mem_iota {k : Nat} {x : Int} : x ∈ iota k ↔ 0 ≤ x ∧ x < k := by
  have := iota_has k x
  rw [Bool.eq_iff_iff, List.contains_iff_mem, decide_eq_true_iff] at this
  exact this
theorem mem_round {d : List Int} {n m r : Nat} {x : Int} : x ∈ roundAt d n m r ↔ (0 ≤ x ∧ x < m) ∧ dp d n x.toNat = (r : Int) + 1 := by
  unfold roundAt
  rw [List.mem_filter, mem_iota]
  unfold isAt
  rw [decide_eq_true_iff]
theorem mem_done {n : Nat} {l : List Join} {d : List Int} (h : depths n l = some d) {r : Nat} {x : Int} : x ∈ doneOf d n l.length r ↔ (0 ≤ x ∧ x < l.length) ∧ dp d n x.toNat ≤ r := by
  induction r with
  | zero =>
    constructor
    · intro hx; simp [doneOf, rounds] at hx
    · rintro ⟨h1, h2⟩
      have := dp_pos h (k := x.toNat) (by omega)
      omega
  | succ r ih =>
    rw [done_succ, List.mem_append, ih, mem_round]
    constructor
    · rintro (h1 | h1)
      · exact ⟨h1.1, by omega⟩
      · exact ⟨h1.1, by omega⟩
    · rintro ⟨h1, h2⟩
      by_cases e : dp d n x.toNat ≤ r
      · exact .inl ⟨h1, e⟩
      · exact .inr ⟨h1, by omega⟩
theorem has_done {n : Nat} {l : List Join} {d : List Int} (h : depths n l = some d) {r i : Nat} (hi : i < l.length) : (doneOf d n l.length r).contains (i : Int) = decide (dp d n i ≤ r) := by
  rw [Bool.eq_iff_iff, List.contains_iff_mem, decide_eq_true_iff, mem_done h, Int.toNat_natCast]
  omega
/-- a join is sewn in round r just if it is ready then, and not done -/
theorem ready_round {l : List Join} {n : Int} {d : List Int} (h : treeOk l n = true) (hd : depths n.toNat l = some d) {r i : Nat} {j : Join} (hj : l[i]? = some j) :
    ready n (doneOf d n.toNat l.length r) j = decide (dp d n.toNat i ≤ (r : Int) + 1) := by
  have hi := (List.getElem?_eq_some_iff.1 hj).1
  obtain ⟨hn, hl, _, _⟩ := tree_parts h
  have hu := tree_units h hj
  have key : ∀ u : Int, 0 ≤ u → u < n + i → readyU n (doneOf d n.toNat l.length r) u = decide (d.getD u.toNat 0 ≤ r) := fun u h0 h1 => by
    unfold readyU
    by_cases e : u < n
    · rw [decide_eq_true e, d_leaf hd (by omega)]
      simp
    · rw [decide_eq_false e, Bool.false_or]
      have h2 := has_done hd (r := r) (i := (u - n).toNat) (by omega)
      rw [show ((u - n).toNat : Int) = u - n by omega] at h2
      rw [h2, dp_unit (n := n.toNat) (hu := by omega)]
      rw [show (u - (n.toNat : Int)).toNat = (u - n).toNat by omega]
  unfold ready
  rw [key _ hu.1.1 hu.1.2, key _ hu.2.1 hu.2.2, dp_eq hd hj, ← Bool.decide_and]
  congr 1
  rw [eq_iff_iff]
  omega
theorem take_round {l : List Join} {n : Int} {d : List Int} (h : treeOk l n = true) (hd : depths n.toNat l = some d) {r i : Nat} {j : Join} (hj : l[i]? = some j) :
    (!(doneOf d n.toNat l.length r).contains (i : Int) && ready n (doneOf d n.toNat l.length r) j) = isAt d n.toNat r (i : Int) := by
  have hi := (List.getElem?_eq_some_iff.1 hj).1
  rw [has_done hd hi, ready_round h hd hj]
  unfold isAt
  rw [Int.toNat_natCast, Bool.eq_iff_iff]
  simp
  omega
theorem filter_succ {d : List Int} {n k r : Nat} : roundAt d n (k + 1) r = if isAt d n r (k : Int) then roundAt d n k r ++ [(k : Int)] else roundAt d n k r := by
  rw [round_succ]
  unfold isAt
  rw [Int.toNat_natCast]
  by_cases h : dp d n k = (r : Int) + 1
  · rw [if_pos h, decide_eq_true h]; rfl
  · rw [if_neg h, decide_eq_false h, List.append_nil]; rfl

/-! ### how many -/
theorem done_len {n : Nat} {l : List Join} {d : List Int} (h : depths n l = some d) (r : Nat) : (doneOf d n l.length r).length ≤ l.length ∧ ((doneOf d n l.length r).length < l.length ↔ r < maxDep d n l.length) := by
  have key : ∀ r, (doneOf d n l.length r).length = ((List.range l.length).filter fun i => decide (dp d n i ≤ (r : Int))).length := by
    intro r
    induction r with
    | zero =>
      have e : (List.range l.length).filter (fun i => decide (dp d n i ≤ ((0 : Nat) : Int))) = [] := List.filter_eq_nil_iff.2 fun i hi => by
        have := dp_pos h (List.mem_range.1 hi)
        simp; omega
      rw [e]; rfl
    | succ r ih =>
      rw [done_succ, List.length_append, ih]
      have hf : ∀ (s : List Nat), (s.filter fun i => decide (dp d n i ≤ (r : Int))).length + (s.filter fun i => decide (dp d n i = (r : Int) + 1)).length = (s.filter fun i => decide (dp d n i ≤ ((r + 1 : Nat) : Int))).length := by
        intro s
        induction s with
        | nil => rfl
        | cons a s ihs =>
          simp only [List.filter_cons]
          by_cases h1 : dp d n a ≤ (r : Int)
          · rw [decide_eq_true h1, decide_eq_false (show ¬ dp d n a = (r : Int) + 1 by omega), decide_eq_true (show dp d n a ≤ ((r + 1 : Nat) : Int) by omega)]
            simp only [if_true, if_false, List.length_cons, Bool.false_eq_true]; omega
          · by_cases h2 : dp d n a = (r : Int) + 1
            · rw [decide_eq_false h1, decide_eq_true h2, decide_eq_true (show dp d n a ≤ ((r + 1 : Nat) : Int) by omega)]
              simp only [if_true, if_false, List.length_cons, Bool.false_eq_true]; omega
            · rw [decide_eq_false h1, decide_eq_false h2, decide_eq_false (show ¬ dp d n a ≤ ((r + 1 : Nat) : Int) by omega)]
              simp only [if_false, Bool.false_eq_true]; omega
      rw [← hf]
      congr 1
      unfold roundAt iota
      rw [List.filter_map, List.length_map]
      rfl
  rw [key]
  have hle := List.length_filter_le (fun i => decide (dp d n i ≤ (r : Int))) (List.range l.length)
  rw [List.length_range] at hle
  refine ⟨hle, ?_⟩
  constructor
  · intro hlt
    apply Classical.byContradiction
    intro hn
    have hall : (List.range l.length).filter (fun i => decide (dp d n i ≤ (r : Int))) = List.range l.length := by
      rw [List.filter_eq_self]
      intro i hi
      have := maxDep_le (d := d) (n := n) l.length i (List.mem_range.1 hi)
      rw [decide_eq_true_iff]; omega
    rw [hall, List.length_range] at hlt
    omega
  · intro hlt
    obtain ⟨i, hi, h2⟩ := maxDep_lt (d := d) (n := n) _ _ hlt
    apply Classical.byContradiction
    intro hn
    have hall : (List.range l.length).filter (fun i => decide (dp d n i ≤ (r : Int))) = List.range l.length := by
      refine List.Sublist.eq_of_length List.filter_sublist ?_
      rw [List.length_range]; omega
    have := (List.filter_eq_self.1 hall) i (List.mem_range.2 hi)
    rw [decide_eq_true_iff] at this
    omega
theorem maxDep_bd {n : Nat} {l : List Join} {d : List Int} (h : depths n l = some d) : ∀ k, k ≤ l.length → maxDep d n k ≤ k := by
  intro k
  induction k with
  | zero => intro _; exact Nat.le_refl _
  | succ k ih =>
    intro hk
    have := ih (by omega)
    have := dp_le_max h (k := k) (by omega)
    unfold maxDep
    omega
def mostOf : List (List Int) → Int
  | [] => 0
  | r :: rs => max (r.length : Int) (mostOf rs)
def mostUp (rs : List (List Int)) : Int := rs.foldl (fun b r => max b (r.length : Int)) 0
theorem mostUp_succ {rs : List (List Int)} {k : Nat} {r : List Int} (hr : rs[k]? = some r) : mostUp (rs.take (k + 1)) = max (mostUp (rs.take k)) (r.length : Int) := foldl_take_succ' hr
theorem chain_small (l : List Join) (n : Int) : (chainRounds l n).length ≤ 11 ∧ ∀ r ∈ chainRounds l n, r.length ≤ 11 := by
  cases h : treeOk l n
  · rw [chain_no h]; simp
  · obtain ⟨hn, hl, ⟨d, hd⟩, _⟩ := tree_parts h
    rw [chain_yes h hd, rounds_len]
    have := maxDep_bd hd l.length (Nat.le_refl _)
    refine ⟨by omega, fun r hr => ?_⟩
    unfold rounds at hr
    obtain ⟨q, _, rfl⟩ := List.mem_map.1 hr
    have := round_len d n.toNat l.length q
    omega

end Go.Proofs.Ytgdnonciobjceaa
