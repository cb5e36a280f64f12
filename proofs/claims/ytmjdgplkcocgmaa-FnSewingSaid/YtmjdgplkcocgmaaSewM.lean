/-
  Orders of sewing: as written, in rounds, and with the first two exchanged; plain.
-/
import Derived.Test.YtmjdgplkcocgmaaZPlain
set_option linter.unusedVariables false
namespace Go.Proofs.Ytmjdgplkcocgmaa

/-! ### an order grows -/
theorem good_parts {l : List Join} {n : Int} {o : List Int} {i : Nat} (h1 : 0 ≤ o.getD i 0 ∧ o.getD i 0 < l.length) (h2 : o.getD i 0 ∉ o.take i) (h3 : ready n (o.take i) (joinAt l (o.getD i 0)) = true) : goodAt l n o i = true := by
  unfold goodAt
  rw [within_iff.2 (by omega), h3]
  have : (o.take i).contains (o.getD i 0) = false := by
    rw [Bool.eq_false_iff]
    intro h
    exact h2 (List.contains_iff_mem.1 h)
  rw [this]; rfl
def Fine (l : List Join) (n : Int) (o : List Int) : Prop := ∀ i, i < o.length → goodAt l n o i = true
theorem good_pre {l : List Join} {n : Int} {o : List Int} {i : Nat} (x : Int) (hi : i < o.length) : goodAt l n (o ++ [x]) i = goodAt l n o i := by
  unfold goodAt
  rw [List.take_append_of_le_length (by omega), show (o ++ [x]).getD i 0 = o.getD i 0 by rw [List.getD_eq_getElem?_getD, List.getElem?_append_left hi, ← List.getD_eq_getElem?_getD]]
theorem fine_push {l : List Join} {n : Int} {o : List Int} {x : Int} (h : Fine l n o) (h1 : 0 ≤ x ∧ x < l.length) (h2 : x ∉ o) (h3 : ready n o (joinAt l x) = true) : Fine l n (o ++ [x]) := by
  intro i hi
  rw [List.length_append, List.length_singleton] at hi
  by_cases hlt : i < o.length
  · rw [good_pre x hlt]; exact h i hlt
  · have e : i = o.length := by omega
    subst e
    have hx : (o ++ [x]).getD o.length 0 = x := by rw [List.getD_eq_getElem?_getD, List.getElem?_append_right (Nat.le_refl _), Nat.sub_self]; rfl
    have ht : (o ++ [x]).take o.length = o := by rw [List.take_append_of_le_length (Nat.le_refl _), List.take_length]
    exact good_parts (by rw [hx]; exact h1) (by rw [hx, ht]; exact h2) (by rw [hx, ht]; exact h3)
theorem readyU_mono {n : Int} {a b : List Int} (h : ∀ x ∈ a, x ∈ b) {u : Int} (hr : readyU n a u = true) : readyU n b u = true := by
  unfold readyU at *
  rw [Bool.or_eq_true] at *
  rcases hr with hr | hr
  · exact .inl hr
  · exact .inr (List.contains_iff_mem.2 (h _ (List.contains_iff_mem.1 hr)))
theorem ready_mono {n : Int} {a b : List Int} (h : ∀ x ∈ a, x ∈ b) {j : Join} (hr : ready n a j = true) : ready n b j = true := by
  unfold ready at *
  rw [Bool.and_eq_true] at *
  exact ⟨readyU_mono h hr.1, readyU_mono h hr.2⟩
theorem fine_pushes {l : List Join} {n : Int} : ∀ (b o : List Int), Fine l n o → b.Nodup → (∀ x ∈ b, (0 ≤ x ∧ x < l.length) ∧ x ∉ o ∧ ready n o (joinAt l x) = true) → Fine l n (o ++ b) := by
  intro b
  induction b with
  | nil => intro o h _ _; rw [List.append_nil]; exact h
  | cons x b ih =>
    intro o h hn hb
    rw [List.nodup_cons] at hn
    obtain ⟨h1, h2, h3⟩ := hb x (by simp)
    rw [show o ++ x :: b = (o ++ [x]) ++ b by simp]
    refine ih _ (fine_push h h1 h2 h3) hn.2 (fun y hy => ?_)
    obtain ⟨g1, g2, g3⟩ := hb y (by simp [hy])
    refine ⟨g1, fun hm => ?_, ready_mono (fun z hz => by simp [hz]) g3⟩
    rw [List.mem_append, List.mem_singleton] at hm
    rcases hm with hm | rfl
    · exact g2 hm
    · exact hn.1 hy
theorem joinAt_at {l : List Join} {i : Nat} {j : Join} (h : l[i]? = some j) : joinAt l (i : Int) = j := by
  unfold joinAt
  rw [Int.toNat_natCast, List.getD_eq_getElem?_getD, h]; rfl
theorem fine_order {l : List Join} {n : Int} {o : List Int} (h : treeOk l n = true) (hl : o.length = l.length) (hf : Fine l n o) : isOrder l n o = true := (order_end h hl hf).symm

/-! ### as they are written -/
theorem iota_fine {l : List Join} {n : Int} (h : treeOk l n = true) : ∀ k, k ≤ l.length → Fine l n (iota k) := by
  intro k
  induction k with
  | zero => intro _ i hi; simp [iota] at hi
  | succ k ih =>
    intro hk
    have hx : l[k]? = some (l[k]'(by omega)) := List.getElem?_eq_getElem _
    rw [iota_succ]
    refine fine_push (ih (by omega)) (by omega) (fun hm => ?_) ?_
    · have := mem_iota.1 hm; omega
    · rw [joinAt_at hx]; exact ready_iota h hx
theorem iota_order {l : List Join} {n : Int} (h : treeOk l n = true) : isOrder l n (iota l.length) = true := fine_order h (iota_len _) (iota_fine h _ (Nat.le_refl _))

/-! ### in rounds -/
theorem nodup_iota (n : Nat) : (iota n).Nodup := by
  unfold iota
  exact List.Pairwise.map _ (fun a b h e => h (by omega)) List.nodup_range
theorem done_fine {l : List Join} {n : Int} {d : List Int} (h : treeOk l n = true) (hd : depths n.toNat l = some d) : ∀ r, Fine l n (doneOf d n.toNat l.length r) := by
  intro r
  induction r with
  | zero => intro i hi; simp [doneOf, rounds] at hi
  | succ r ih =>
    rw [done_succ]
    refine fine_pushes _ _ ih ?_ (fun x hx => ?_)
    · unfold roundAt
      exact List.filter_sublist.nodup (nodup_iota _)
    · obtain ⟨h1, h2⟩ := mem_round.1 hx
      refine ⟨h1, fun hm => ?_, ?_⟩
      · have := (mem_done hd).1 hm; omega
      · have hi : x.toNat < l.length := by omega
        have hj : l[x.toNat]? = some (l[x.toNat]'hi) := List.getElem?_eq_getElem _
        have e : x = (x.toNat : Int) := by omega
        rw [e, joinAt_at hj, ready_round h hd hj, decide_eq_true (by omega)]
theorem chain_flat {l : List Join} {n : Int} {d : List Int} (h : treeOk l n = true) (hd : depths n.toNat l = some d) : (chainRounds l n).flatten = doneOf d n.toNat l.length (maxDep d n.toNat l.length) := by
  rw [chain_yes h hd]; rfl
theorem chain_len {l : List Join} {n : Int} (h : treeOk l n = true) : (chainRounds l n).flatten.length = l.length := by
  obtain ⟨_, _, ⟨d, hd⟩, _⟩ := tree_parts h
  rw [chain_flat h hd]
  have := done_len hd (maxDep d n.toNat l.length)
  omega
theorem chain_order {l : List Join} {n : Int} (h : treeOk l n = true) : isOrder l n (chainRounds l n).flatten = true := by
  obtain ⟨_, _, ⟨d, hd⟩, _⟩ := tree_parts h
  refine fine_order h (chain_len h) ?_
  rw [chain_flat h hd]
  exact done_fine h hd _

/-! ### the first two exchanged -/
def swapped (m : Nat) : List Int := ((iota m).set 0 1).set 1 0
theorem iota_two (k : Nat) : iota (k + 2) = 0 :: 1 :: (List.range k).map fun p : Nat => ((p + 2 : Nat) : Int) := by
  unfold iota
  rw [List.range_succ_eq_map, List.range_succ_eq_map]
  simp
  intro a _
  omega
theorem swapped_two (k : Nat) : swapped (k + 2) = 1 :: 0 :: (List.range k).map fun p : Nat => ((p + 2 : Nat) : Int) := by
  unfold swapped
  rw [iota_two]; rfl
theorem swapped_len (m : Nat) : (swapped m).length = m := by unfold swapped; rw [List.length_set, List.length_set, iota_len]
theorem swapped_succ {m : Nat} (h : 2 ≤ m) : swapped (m + 1) = swapped m ++ [(m : Int)] := by
  obtain ⟨k, rfl⟩ : ∃ k, m = k + 2 := ⟨m - 2, by omega⟩
  rw [show k + 2 + 1 = (k + 1) + 2 by omega, swapped_two, swapped_two, List.range_succ, List.map_append]
  rfl
theorem swapped_mem {m : Nat} (h : 2 ≤ m) (x : Int) : x ∈ swapped m ↔ x ∈ iota m := by
  obtain ⟨k, rfl⟩ : ∃ k, m = k + 2 := ⟨m - 2, by omega⟩
  rw [swapped_two, iota_two]
  simp only [List.mem_cons]
  constructor
  · rintro (h | h | h)
    · exact .inr (.inl h)
    · exact .inl h
    · exact .inr (.inr h)
  · rintro (h | h | h)
    · exact .inr (.inl h)
    · exact .inl h
    · exact .inr (.inr h)
theorem ready_low {n : Int} {o : List Int} {j : Join} (ha : j.A < n) (hb : j.B < n) : ready n o j = true := by
  unfold ready readyU
  rw [decide_eq_true ha, decide_eq_true hb]; rfl
def freeB (l : List Join) (n : Int) : Bool := (joinAt l 1).A != n && (joinAt l 1).B != n
theorem free_low {l : List Join} {n : Int} (h : treeOk l n = true) (hm : 2 ≤ l.length) (hf : freeB l n = true) : (joinAt l 1).A < n ∧ (joinAt l 1).B < n := by
  have hx : l[1]? = some (l[1]'(by omega)) := List.getElem?_eq_getElem _
  have hu := tree_units h hx
  have e : joinAt l 1 = l[1]'(by omega) := joinAt_at (i := 1) hx
  unfold freeB at hf
  rw [Bool.and_eq_true, bne_iff_ne, bne_iff_ne] at hf
  rw [e] at hf ⊢
  omega
theorem swap_order {l : List Join} {n : Int} (h : treeOk l n = true) (hm : 2 ≤ l.length) : isOrder l n (swapped l.length) = freeB l n := by
  have h0 : l[0]? = some (l[0]'(by omega)) := List.getElem?_eq_getElem _
  have h1 : l[1]? = some (l[1]'(by omega)) := List.getElem?_eq_getElem _
  have hu0 := tree_units h h0
  cases hf : freeB l n
  · refine (order_bad (i := 0) (by rw [swapped_len]; omega) ?_).symm
    obtain ⟨k, hk⟩ : ∃ k, l.length = k + 2 := ⟨l.length - 2, by omega⟩
    have e1 : (swapped l.length).getD 0 0 = 1 := by rw [hk, swapped_two]; rfl
    unfold goodAt
    rw [e1]
    have hr : ready n ((swapped l.length).take 0) (joinAt l 1) = false := by
      unfold freeB at hf
      rw [Bool.eq_false_iff]
      intro hr
      unfold ready readyU at hr
      simp only [List.take_zero, List.contains_nil, Bool.or_false, Bool.and_eq_true, decide_eq_true_iff] at hr
      rw [Bool.and_eq_false_iff] at hf
      rcases hf with hf | hf
      · have : (joinAt l 1).A = n := by simpa using hf
        omega
      · have : (joinAt l 1).B = n := by simpa using hf
        omega
    rw [hr, Bool.and_false]
  · have hlow := free_low h hm hf
    refine fine_order h (swapped_len _) ?_
    have main : ∀ k, 2 ≤ k → k ≤ l.length → Fine l n (swapped k) := by
      intro k
      induction k with
      | zero => intro h2; omega
      | succ k ih =>
        intro h2 hk
        by_cases e : k = 1
        · subst e
          rw [show swapped (1 + 1) = ([] ++ [1]) ++ [0] from rfl]
          have f0 : Fine l n [] := fun i hi => by simp at hi
          refine fine_push (fine_push f0 (by omega) (by simp) (ready_low hlow.1 hlow.2)) (by omega) (by simp) ?_
          have e0 : joinAt l 0 = l[0]'(by omega) := joinAt_at (i := 0) h0
          rw [e0]
          exact ready_low (by omega) (by omega)
        · have hx : l[k]? = some (l[k]'(by omega)) := List.getElem?_eq_getElem _
          rw [swapped_succ (by omega)]
          refine fine_push (ih (by omega) (by omega)) (by omega) (fun hm' => ?_) ?_
          · have := mem_iota.1 ((swapped_mem (by omega) _).1 hm'); omega
          · rw [joinAt_at hx]
            exact ready_mono (fun x hx => (swapped_mem (by omega) x).2 hx) (ready_iota h hx)
    exact main _ hm (Nat.le_refl _)

/-! ### how many -/
theorem free_prod {l : List Join} {n : Int} (h : treeOk l n = true) (hm : 2 ≤ l.length) (hf : freeB l n = true) : ∀ k, 2 ≤ k → k ≤ l.length → 2 * prodI (tailOf n.toNat (l.take k)) ≤ fac k := by
  have hlow := free_low h hm hf
  have h0 : l[0]? = some (l[0]'(by omega)) := List.getElem?_eq_getElem _
  have h1 : l[1]? = some (l[1]'(by omega)) := List.getElem?_eq_getElem _
  have hu0 := tree_units h h0
  have hu1 := tree_units h h1
  have e1 : joinAt l 1 = l[1]'(by omega) := joinAt_at (i := 1) h1
  rw [e1] at hlow
  obtain ⟨hn, hl, _, _⟩ := tree_parts h
  intro k
  induction k with
  | zero => intro h2; omega
  | succ k ih =>
    intro h2 hk
    by_cases e : k = 1
    · subst e
      have t0 : tailOf n.toNat (l.take 0) = [] := List.eq_nil_of_length_eq_zero (tail_len (Nat.zero_le _))
      have s0 : ∀ i, (sizesOf n.toNat (l.take 0)).getD i 0 = 0 := fun i => getD_rep0 _ _
      have t1 := tail_succ (n := n.toNat) h0
      rw [t0, s0, s0] at t1
      have s1 : ∀ i : Nat, i < n.toNat → (sizesOf n.toNat (l.take 1)).getD i 0 = 0 := fun i hi => by
        have := sizes_succ (n := n.toNat) h0
        rw [show (0 : Nat) + 1 = 1 from rfl] at this
        rw [this]
        unfold sizeStep
        rw [getD_push, if_pos (by rw [sizes_take_len (by omega)]; omega)]
        exact s0 i
      have t2 := tail_succ (n := n.toNat) h1
      rw [s1 _ (by omega), s1 _ (by omega)] at t2
      rw [show (1 : Nat) = 0 + 1 from rfl, t1] at t2
      rw [t2]
      decide
    · have hx : l[k]? = some (l[k]'(by omega)) := List.getElem?_eq_getElem _
      have h2' := ih (by omega) (by omega)
      have hpos := (tail_prod h k (by omega)).1
      rw [tail_succ hx, prodI_append]
      obtain ⟨h3, h4, h5⟩ := size_le h hx
      show 2 * (prodI _ * (_ * 1)) ≤ fac k * ((k : Int) + 1)
      rw [Int.mul_one, ← Int.mul_assoc]
      exact Int.mul_le_mul h2' (by omega) (by omega) (by have := fac_pos k; omega)
theorem count_two {l : List Join} {n : Int} (h : treeOk l n = true) (hm : 2 ≤ l.length) (hf : freeB l n = true) : 2 ≤ countOrders l n := by
  have h1 := tail_prod h l.length (Nat.le_refl _)
  have h2 := free_prod h hm hf l.length hm (Nat.le_refl _)
  rw [List.take_length] at h1 h2
  rw [← count_prod h]
  exact Int.le_ediv_of_mul_le (by omega) (by omega)
theorem count_six : countOrders [⟨false, 0, 1⟩, ⟨false, 2, 3⟩, ⟨false, 4, 5⟩] 4 = 2 := by decide

end Go.Proofs.Ytmjdgplkcocgmaa
