/-
  Plain functions for needs that are put together; the plain law of strips; no program in sight.
-/
import Derived.Test.YtgobjhaodlmoaaaPlainB
set_option linter.unusedVariables false
namespace Go.Proofs.Ytgobjhaodlmoaaa

def keyEq (x n : Need) : Bool := x.W == n.W && x.H == n.H
def more (x n : Need) : Need := ⟨x.W, x.H, x.Count + n.Count⟩
def addTo : List Need → Need → List Need
  | [], n => [n]
  | x :: xs, n => if keyEq x n then more x n :: xs else x :: addTo xs n
def grp (l : List Need) : List Need := l.foldl addTo []
def groupNeeds (l : List Need) : List Need := if needsOk l && needsOk (grp l) then grp l else []

theorem grp_succ {l : List Need} {k : Nat} {x : Need} (hx : l[k]? = some x) : grp (l.take (k + 1)) = addTo (grp (l.take k)) x := foldl_take_succ hx
theorem keyEq_iff {x n : Need} : keyEq x n = true ↔ x.W = n.W ∧ x.H = n.H := by simp [keyEq]
theorem addTo_hit : ∀ {out : List Need} {n x : Need} {i : Nat}, out[i]? = some x → keyEq x n = true → (∀ (j : Nat) (y : Need), j < i → out[j]? = some y → keyEq y n = false) → addTo out n = out.set i (more x n) := by
  intro out
  induction out with
  | nil => intro n x i h; simp at h
  | cons z zs ih =>
    intro n x i h hk hb
    cases i with
    | zero =>
      simp at h
      subst h
      unfold addTo
      rw [hk]; rfl
    | succ i =>
      unfold addTo
      rw [hb 0 z (by omega) rfl, List.set_cons_succ, ← ih (i := i) (by simpa using h) hk fun j y hj hy => hb (j + 1) y (by omega) (by simpa using hy)]
      rfl
theorem addTo_miss : ∀ {out : List Need} {n : Need}, (∀ (j : Nat) (y : Need), out[j]? = some y → keyEq y n = false) → addTo out n = out ++ [n] := by
  intro out
  induction out with
  | nil => intro n _; rfl
  | cons z zs ih =>
    intro n hb
    unfold addTo
    rw [hb 0 z rfl, ih fun j y hy => hb (j + 1) y (by simpa using hy)]
    rfl
/-- all keys differ -/
def Keys (l : List Need) : Prop := ∀ (i j : Nat) (x y : Need), l[i]? = some x → l[j]? = some y → keyEq x y = true → i = j
theorem keys_nil : Keys [] := fun i j x y h => by simp at h
theorem keyEq_refl (x : Need) : keyEq x x = true := by simp [keyEq]
theorem keyEq_symm {x y : Need} (h : keyEq x y = true) : keyEq y x = true := by
  rw [keyEq_iff] at *
  omega
theorem keyEq_trans {x y z : Need} (h : keyEq x y = true) (k : keyEq y z = true) : keyEq x z = true := by
  rw [keyEq_iff] at *
  omega
theorem hit_or_miss (out : List Need) (n : Need) : (∃ (i : Nat) (x : Need), out[i]? = some x ∧ keyEq x n = true ∧ (∀ (j : Nat) (y : Need), j < i → out[j]? = some y → keyEq y n = false)) ∨ (∀ (j : Nat) (y : Need), out[j]? = some y → keyEq y n = false) := by
  induction out with
  | nil => exact .inr fun j y h => by simp at h
  | cons z zs ih =>
    cases hz : keyEq z n
    · rcases ih with ⟨i, x, h1, h2, h3⟩ | h
      · refine .inl ⟨i + 1, x, by simpa using h1, h2, fun j y hj hy => ?_⟩
        cases j with
        | zero => simp at hy; subst hy; exact hz
        | succ j => exact h3 j y (by omega) (by simpa using hy)
      · refine .inr fun j y hy => ?_
        cases j with
        | zero => simp at hy; subst hy; exact hz
        | succ j => exact h j y (by simpa using hy)
    · exact .inl ⟨0, z, rfl, hz, fun j y hj => absurd hj (by omega)⟩
theorem keys_hit {out : List Need} (h : Keys out) {n x : Need} {i : Nat} (hx : out[i]? = some x) (hk : keyEq x n = true) : (∀ (j : Nat) (y : Need), j ≠ i → out[j]? = some y → keyEq y n = false) := fun j y hj hy => by
  cases hc : keyEq y n
  · rfl
  · exact absurd (h j i y x hy hx (keyEq_trans hc (keyEq_symm hk))) hj
theorem more_key (x n y : Need) : keyEq (more x n) y = keyEq x y := rfl
theorem more_key2 (x n y : Need) : keyEq y (more x n) = keyEq y x := rfl
theorem keys_add {out : List Need} (h : Keys out) (n : Need) : Keys (addTo out n) := by
  rcases hit_or_miss out n with ⟨i, x, hx, hk, hb⟩ | hm
  · rw [addTo_hit hx hk hb]
    intro a b u v hu hv e
    rw [List.getElem?_set] at hu hv
    have hi := (List.getElem?_eq_some_iff.1 hx).1
    by_cases e1 : i = a <;> by_cases e2 : i = b
    · omega
    · rw [if_pos e1, if_pos hi] at hu
      rw [if_neg e2] at hv
      injection hu with hu
      subst hu
      rw [more_key] at e
      subst e1
      exact h i b x v hx hv e
    · rw [if_neg e1] at hu
      rw [if_pos e2, if_pos hi] at hv
      injection hv with hv
      subst hv
      rw [more_key2] at e
      subst e2
      exact h a i u x hu hx e
    · rw [if_neg e1] at hu
      rw [if_neg e2] at hv
      exact h a b u v hu hv e
  · rw [addTo_miss hm]
    intro a b u v hu hv e
    rw [List.getElem?_append] at hu hv
    split at hu <;> split at hv
    · exact h a b u v hu hv e
    · have hb : b = out.length := by
        have := (List.getElem?_eq_some_iff.1 hv).1
        simp at this; omega
      subst hb
      rw [Nat.sub_self] at hv
      simp only [List.getElem?_cons_zero, Option.some.injEq] at hv
      subst hv
      rw [hm a u hu] at e
      cases e
    · have ha : a = out.length := by
        have := (List.getElem?_eq_some_iff.1 hu).1
        simp at this; omega
      subst ha
      rw [Nat.sub_self] at hu
      simp only [List.getElem?_cons_zero, Option.some.injEq] at hu
      subst hu
      have := keyEq_symm e
      rw [hm b v hv] at this
      cases this
    · have h1 := (List.getElem?_eq_some_iff.1 hu).1
      have h2 := (List.getElem?_eq_some_iff.1 hv).1
      simp at h1 h2
      omega
theorem grp_keys (l : List Need) : Keys (grp l) := by
  have h : ∀ (l out : List Need), Keys out → Keys (l.foldl addTo out) := by
    intro l
    induction l with
    | nil => intro out h; exact h
    | cons n l ih => intro out h; exact ih _ (keys_add h n)
  exact h l [] keys_nil
theorem addTo_len (out : List Need) (n : Need) : out.length ≤ (addTo out n).length ∧ (addTo out n).length ≤ out.length + 1 ∧ 1 ≤ (addTo out n).length := by
  induction out with
  | nil => simp [addTo]
  | cons x xs ih =>
    unfold addTo
    split
    · simp
    · simp only [List.length_cons]; omega
theorem grp_len (l : List Need) : (grp l).length ≤ l.length ∧ (0 < l.length → 0 < (grp l).length) := by
  have h : ∀ (l out : List Need), (l.foldl addTo out).length ≤ out.length + l.length ∧ out.length ≤ (l.foldl addTo out).length := by
    intro l
    induction l with
    | nil => intro out; simp
    | cons n l ih =>
      intro out
      have := ih (addTo out n)
      have := addTo_len out n
      rw [List.foldl_cons, List.length_cons]
      omega
  constructor
  · have := (h l []).1
    simpa [grp] using this
  · intro hl
    cases l with
    | nil => simp at hl
    | cons n l =>
      have := (h l (addTo [] n)).2
      have := addTo_len [] n
      unfold grp
      rw [List.foldl_cons]
      omega
/-- each element of what is put together has the size of one that came in, and some count from 1 on -/
def SizeOk (x : Need) : Prop := within x.W 1 400 = true ∧ within x.H 1 400 = true ∧ 1 ≤ x.Count
theorem sizeOk_of {x : Need} (h : needOk x = true) : SizeOk x := by
  have := needOk_bd h
  exact ⟨within_iff.2 this.1, within_iff.2 this.2.1, this.2.2.1⟩
theorem all_add {P : Need → Prop} (hP : ∀ x n, P x → P n → P (more x n)) {out : List Need} {n : Need} (h : ∀ x ∈ out, P x) (hn : P n) : ∀ x ∈ addTo out n, P x := by
  induction out with
  | nil => intro x hx; simp [addTo] at hx; subst hx; exact hn
  | cons z zs ih =>
    intro x hx
    unfold addTo at hx
    split at hx
    · rcases List.mem_cons.1 hx with rfl | hx
      · exact hP z n (h z (by simp)) hn
      · exact h x (List.mem_cons_of_mem _ hx)
    · rcases List.mem_cons.1 hx with rfl | hx
      · exact h x (by simp)
      · exact ih (fun y hy => h y (List.mem_cons_of_mem _ hy)) x hx
theorem grp_sizes {l : List Need} (h : ∀ x ∈ l, SizeOk x) : ∀ x ∈ grp l, SizeOk x := by
  have hP : ∀ x n, SizeOk x → SizeOk n → SizeOk (more x n) := fun x n hx hn => ⟨hx.1, hx.2.1, by have := hx.2.2; have := hn.2.2; show 1 ≤ x.Count + n.Count; omega⟩
  have main : ∀ (l out : List Need), (∀ x ∈ l, SizeOk x) → (∀ x ∈ out, SizeOk x) → ∀ x ∈ l.foldl addTo out, SizeOk x := by
    intro l
    induction l with
    | nil => intro out _ h; exact h
    | cons n l ih => intro out hl h; exact ih _ (fun x hx => hl x (List.mem_cons_of_mem _ hx)) (all_add hP h (hl n (by simp)))
  exact main l [] h fun x hx => by simp at hx
theorem needs_all {l : List Need} (h : needsOk l = true) : ∀ x ∈ l, needOk x = true := fun x hx => by
  obtain ⟨i, hi⟩ := List.getElem?_of_mem hx
  exact needsOk_at h hi
/-- a count only grows -/
theorem count_grows {out : List Need} {n : Need} (hn : 1 ≤ n.Count) {i : Nat} {x : Need} (hx : out[i]? = some x) : ∃ y, (addTo out n)[i]? = some y ∧ x.Count ≤ y.Count := by
  rcases hit_or_miss out n with ⟨j, z, hz, hk, hb⟩ | hm
  · rw [addTo_hit hz hk hb, List.getElem?_set]
    have hj := (List.getElem?_eq_some_iff.1 hz).1
    by_cases e : j = i
    · subst e
      rw [hz] at hx
      injection hx with hx
      subst hx
      rw [if_pos rfl, if_pos hj]
      exact ⟨_, rfl, by show z.Count ≤ z.Count + n.Count; omega⟩
    · rw [if_neg e]
      exact ⟨x, hx, Int.le_refl _⟩
  · rw [addTo_miss hm, List.getElem?_append_left (List.getElem?_eq_some_iff.1 hx).1]
    exact ⟨x, hx, Int.le_refl _⟩
theorem grp_over {l : List Need} (h : ∀ x ∈ l, 1 ≤ x.Count) {k i : Nat} {x : Need} (hx : (grp (l.take k))[i]? = some x) (hc : 200 < x.Count) : needsOk (grp l) = false := by
  have main : ∀ (r out : List Need), (∀ x ∈ r, 1 ≤ x.Count) → (∃ x, out[i]? = some x ∧ 200 < x.Count) → ∃ x, (r.foldl addTo out)[i]? = some x ∧ 200 < x.Count := by
    intro r
    induction r with
    | nil => intro out _ h; exact h
    | cons n r ih =>
      intro out hr h
      obtain ⟨x, hx, hc⟩ := h
      obtain ⟨y, hy, hxy⟩ := count_grows (hr n (by simp)) hx
      exact ih _ (fun z hz => hr z (List.mem_cons_of_mem _ hz)) ⟨y, hy, by omega⟩
  have hsplit : grp l = (l.drop k).foldl addTo (grp (l.take k)) := by
    unfold grp
    rw [← List.foldl_append, List.take_append_drop]
  obtain ⟨y, hy, hcy⟩ := main (l.drop k) _ (fun x hx => h x (List.mem_of_mem_drop hx)) ⟨x, hx, hc⟩
  rw [← hsplit] at hy
  unfold needsOk
  rw [all_no hy]
  · rfl
  · unfold needOk
    rw [show within y.Count 1 200 = false from within_no.2 (.inr (by omega)), Bool.and_false]
theorem group_no {l : List Need} (h : needsOk l = false) : groupNeeds l = [] := by
  unfold groupNeeds
  rw [h]; rfl
theorem group_no2 {l : List Need} (h : needsOk (grp l) = false) : groupNeeds l = [] := by
  unfold groupNeeds
  rw [h, Bool.and_false]; rfl
theorem group_yes {l : List Need} (h : needsOk l = true) (h2 : needsOk (grp l) = true) : groupNeeds l = grp l := by
  unfold groupNeeds
  rw [h, h2]; rfl
theorem grp_ok {l : List Need} (h : needsOk l = true) (hc : ∀ x ∈ grp l, x.Count ≤ 200) : needsOk (grp l) = true := by
  have h1 := grp_sizes fun x hx => sizeOk_of (needs_all h x hx)
  have h2 := needsOk_len h
  have h3 := (grp_len l).1
  unfold needsOk
  rw [Bool.and_eq_true, List.all_eq_true, decide_eq_true_iff]
  refine ⟨fun x hx => ?_, by omega⟩
  obtain ⟨a, b, c⟩ := h1 x hx
  unfold needOk
  rw [a, b, within_iff.2 ⟨c, hc x hx⟩]; rfl

/-! ### strips -/
def countBy (l : List Need) : Int := (l.map fun n => n.Count).sum
theorem countBy_take_succ {l : List Need} {k : Nat} {x : Need} (hx : l[k]? = some x) : countBy (l.take (k + 1)) = countBy (l.take k) + x.Count := by
  unfold countBy
  rw [List.take_add_one, hx]
  simp
theorem countBy_add (out : List Need) (n : Need) : countBy (addTo out n) = countBy out + n.Count := by
  induction out with
  | nil => simp [addTo, countBy]
  | cons x xs ih =>
    unfold addTo
    unfold countBy at *
    split
    · simp only [List.map_cons, List.sum_cons, more]; omega
    · simp only [List.map_cons, List.sum_cons]; omega
theorem countBy_grp (l : List Need) : countBy (grp l) = countBy l := by
  have main : ∀ (l out : List Need), countBy (l.foldl addTo out) = countBy out + countBy l := by
    intro l
    induction l with
    | nil => intro out; simp [countBy]
    | cons n l ih =>
      intro out
      rw [List.foldl_cons, ih, countBy_add]
      simp [countBy]; omega
  have := main l []
  unfold grp
  rw [this]
  simp [countBy]
theorem count_le_sum {l : List Need} (h : ∀ x ∈ l, 0 ≤ x.Count) : 0 ≤ countBy l ∧ ∀ x ∈ l, x.Count ≤ countBy l := by
  induction l with
  | nil => exact ⟨by simp [countBy], fun x hx => by simp at hx⟩
  | cons n l ih =>
    obtain ⟨h1, h2⟩ := ih fun x hx => h x (List.mem_cons_of_mem _ hx)
    have hn := h n (by simp)
    have e : countBy (n :: l) = n.Count + countBy l := by simp [countBy]
    rw [e]
    refine ⟨by omega, fun x hx => ?_⟩
    rcases List.mem_cons.1 hx with rfl | hx
    · omega
    · have := h2 x hx
      omega
theorem countBy_le {l : List Need} {b : Int} (h : ∀ x ∈ l, x.Count ≤ b) : countBy l ≤ b * (l.length : Int) := by
  induction l with
  | nil => simp [countBy]
  | cons n l ih =>
    have := ih fun x hx => h x (List.mem_cons_of_mem _ hx)
    have hn := h n (by simp)
    have e : countBy (n :: l) = n.Count + countBy l := by simp [countBy]
    rw [e, List.length_cons, show ((l.length + 1 : Nat) : Int) = (l.length : Int) + 1 by omega, Int.mul_add, Int.mul_one]
    omega

/-- what is drawn: sizes from 4 to 48, counts from 1 to 30, at most 5 -/
def smallNeed (x : Need) : Prop := (4 ≤ x.W ∧ x.W ≤ 48) ∧ (4 ≤ x.H ∧ x.H ≤ 48) ∧ 1 ≤ x.Count ∧ x.Count ≤ 30
def SmallNeeds (l : List Need) : Prop := l.length ≤ 5 ∧ ∀ x ∈ l, smallNeed x
theorem small_need {x : Need} (h : smallNeed x) : needOk x = true := by
  unfold smallNeed at h
  unfold needOk
  rw [within_iff.2 (by omega), within_iff.2 (by omega), within_iff.2 (by omega)]; rfl
theorem small_ok {l : List Need} (h : SmallNeeds l) : needsOk l = true := by
  unfold needsOk
  rw [Bool.and_eq_true, List.all_eq_true, decide_eq_true_iff]
  exact ⟨fun x hx => small_need (h.2 x hx), by have := h.1; omega⟩
theorem small_group {l : List Need} (h : SmallNeeds l) : groupNeeds l = grp l ∧ needsOk (grp l) = true ∧ ∀ x ∈ grp l, (4 ≤ x.W ∧ x.W ≤ 48) ∧ (4 ≤ x.H ∧ x.H ≤ 48) ∧ 1 ≤ x.Count ∧ x.Count ≤ 150 := by
  have hs : ∀ x ∈ grp l, (4 ≤ x.W ∧ x.W ≤ 48) ∧ (4 ≤ x.H ∧ x.H ≤ 48) ∧ 1 ≤ x.Count := by
    have main : ∀ (l out : List Need), (∀ x ∈ l, (4 ≤ x.W ∧ x.W ≤ 48) ∧ (4 ≤ x.H ∧ x.H ≤ 48) ∧ 1 ≤ x.Count) → (∀ x ∈ out, (4 ≤ x.W ∧ x.W ≤ 48) ∧ (4 ≤ x.H ∧ x.H ≤ 48) ∧ 1 ≤ x.Count) → ∀ x ∈ l.foldl addTo out, (4 ≤ x.W ∧ x.W ≤ 48) ∧ (4 ≤ x.H ∧ x.H ≤ 48) ∧ 1 ≤ x.Count := by
      intro l
      induction l with
      | nil => intro out _ h; exact h
      | cons n l ih =>
        intro out hl ho
        exact ih _ (fun x hx => hl x (List.mem_cons_of_mem _ hx)) (all_add (P := fun x => (4 ≤ x.W ∧ x.W ≤ 48) ∧ (4 ≤ x.H ∧ x.H ≤ 48) ∧ 1 ≤ x.Count) (fun x n h1 h2 => ⟨h1.1, h1.2.1, by show 1 ≤ x.Count + n.Count; omega⟩) ho (hl n (by simp)))
    exact main l [] (fun x hx => by have := h.2 x hx; unfold smallNeed at this; omega) fun x hx => by simp at hx
  have hc : ∀ x ∈ grp l, x.Count ≤ 150 := fun x hx => by
    have h1 := (count_le_sum fun x hx => by have := hs x hx; omega).2 x hx
    rw [countBy_grp] at h1
    have h2 := countBy_le (l := l) (b := 30) fun x hx => by have := h.2 x hx; unfold smallNeed at this; omega
    have h3 := h.1
    omega
  have hok := grp_ok (small_ok h) fun x hx => by have := hc x hx; omega
  exact ⟨group_yes (small_ok h) hok, hok, fun x hx => by have := hs x hx; have := hc x hx; omega⟩
theorem strip_yes {n : Need} {w : Int} (h : needOk n = true) (h1 : n.W ≤ w) (h2 : 1 ≤ w) (h3 : w ≤ 1000) : stripCount n w = (n.Count + w / n.W - 1) / (w / n.W) := by
  unfold stripCount
  rw [if_pos ⟨h, within_iff.2 (by omega), h1⟩]
theorem ceil_spec {c e : Int} (he : 1 ≤ e) : c ≤ (c + e - 1) / e * e ∧ ((c + e - 1) / e - 1) * e < c := by
  have h0 := Int.emod_nonneg (c + e - 1) (show e ≠ 0 by omega)
  have h1 := Int.emod_lt_of_pos (c + e - 1) (show 0 < e by omega)
  have h2 := Int.mul_ediv_add_emod (c + e - 1) e
  rw [Int.mul_comm] at h2
  rw [Int.sub_mul, Int.one_mul]
  omega
theorem ceil_add {a b e : Int} (he : 1 ≤ e) : (a + b + e - 1) / e ≤ (a + e - 1) / e + (b + e - 1) / e := by
  have h1 := ceil_spec (c := a) he
  have h2 := ceil_spec (c := b) he
  have : (a + b + e - 1) / e < (a + e - 1) / e + (b + e - 1) / e + 1 := by
    rw [Int.ediv_lt_iff_lt_mul (by omega), Int.add_mul, Int.add_mul, Int.one_mul]
    omega
  omega
theorem strip_facts {x : Need} {w : Int} (h : needOk x = true) (h1 : x.W ≤ w) (h2 : 1 ≤ w) (h3 : w ≤ 1000) :
    1 ≤ w / x.W ∧ w / x.W ≤ w ∧ 1 ≤ stripCount x w ∧ stripCount x w ≤ 200 ∧ x.Count ≤ stripCount x w * (w / x.W) ∧ (stripCount x w - 1) * (w / x.W) < x.Count := by
  have hb := needOk_bd h
  have he := each_bd hb.1.1 h1
  have hs := strip_yes h h1 h2 h3
  have hc := ceil_bd hb.2.2.1 he.1
  have hp := ceil_spec (c := x.Count) he.1
  rw [hs]
  exact ⟨he.1, he.2, hc.1, by omega, hp.1, hp.2⟩
theorem sumBy_cons (w : Int) (x : Need) (l : List Need) : sumBy w (x :: l) = stripCount x w * x.H + sumBy w l := by simp [sumBy]
theorem sumBy_add {w : Int} {out : List Need} {n : Need} (hw : 60 ≤ w) (hw2 : w ≤ 1000) (hn : needOk n = true) (hnw : n.W ≤ 48) (ho : ∀ x ∈ out, x.W ≤ 48 ∧ needOk x = true) (ha : ∀ x ∈ addTo out n, needOk x = true) :
    sumBy w (addTo out n) ≤ sumBy w out + stripCount n w * n.H := by
  induction out with
  | nil => simp [addTo, sumBy]
  | cons x xs ih =>
    unfold addTo
    have hx := ho x (by simp)
    by_cases hk : keyEq x n = true
    · rw [if_pos hk, sumBy_cons, sumBy_cons]
      have hm : needOk (more x n) = true := ha _ (by unfold addTo; rw [if_pos hk]; simp)
      obtain ⟨e1, e2⟩ := keyEq_iff.1 hk
      have hbx := needOk_bd hx.2
      have hc := ceil_add (a := x.Count) (b := n.Count) (each_bd (x := x.W) (w := w) hbx.1.1 (by omega)).1
      rw [strip_yes hm (by show x.W ≤ w; omega) (by omega) hw2, strip_yes hx.2 (by omega) (by omega) hw2, strip_yes hn (by omega) (by omega) hw2, ← e1, ← e2]
      show (x.Count + n.Count + w / x.W - 1) / (w / x.W) * x.H + _ ≤ _
      have h1 := Int.mul_le_mul_of_nonneg_right hc (show 0 ≤ x.H by omega)
      rw [Int.add_mul] at h1
      omega
    · rw [if_neg hk, sumBy_cons, sumBy_cons]
      have := ih (fun y hy => ho y (List.mem_cons_of_mem _ hy)) fun y hy => ha y (by unfold addTo; rw [if_neg hk]; exact List.mem_cons_of_mem _ hy)
      omega
theorem take_small {l : List Need} (h : SmallNeeds l) (k : Nat) : SmallNeeds (l.take k) := ⟨by have := h.1; rw [List.length_take]; omega, fun x hx => h.2 x (List.mem_of_mem_take hx)⟩
theorem sumBy_grp {w : Int} {l : List Need} (hw : 60 ≤ w) (hw2 : w ≤ 1000) (h : SmallNeeds l) : sumBy w (grp l) ≤ sumBy w l := by
  have main : ∀ k, k ≤ l.length → sumBy w (grp (l.take k)) ≤ sumBy w (l.take k) := by
    intro k
    induction k with
    | zero => intro _; exact Int.le_refl _
    | succ k ih =>
      intro hk
      have hx : l[k]? = some (l[k]'(by omega)) := List.getElem?_eq_getElem _
      have hs := h.2 _ (List.mem_of_getElem? hx)
      have hs1 := (small_group (take_small h k)).2
      have hs2 := (small_group (take_small h (k + 1))).2
      rw [grp_succ hx] at hs2
      rw [grp_succ hx, sumBy_take_succ hx]
      have := sumBy_add hw hw2 (small_need hs) (by unfold smallNeed at hs; omega) (fun x hx => ⟨by have := hs1.2 x hx; omega, needs_all hs1.1 x hx⟩) fun x hx => needs_all hs2.1 x hx
      have := ih (by omega)
      omega
  have := main l.length (Nat.le_refl _)
  rwa [List.take_length] at this
theorem pos_all {p : Need → Need} {w : Int} {l : List Need} (h : ∀ x ∈ l, 1 ≤ stripCount (p x) w) : lengthBy p w l = sumBy w (l.map p) := by
  unfold lengthBy
  rw [if_pos]
  rw [List.all_eq_true]
  intro y hy
  obtain ⟨x, hx, rfl⟩ := List.mem_map.1 hy
  have := h x hx
  rw [decide_eq_true_iff]; omega
theorem sumBy_nonneg {w : Int} {l : List Need} (h : ∀ x ∈ l, 0 ≤ stripCount x w ∧ 0 ≤ x.H) : 0 ≤ sumBy w l := by
  induction l with
  | nil => simp [sumBy]
  | cons x l ih =>
    rw [sumBy_cons]
    have := ih fun y hy => h y (List.mem_cons_of_mem _ hy)
    have hx := h x (by simp)
    have := Int.mul_nonneg hx.1 hx.2
    omega
theorem strips_law {l : List Need} {w : Int} (h : SmallNeeds l) (hw : 60 ≤ w) (hw2 : w ≤ 315) :
    stripLength l w = sumBy w l ∧ 0 ≤ leastLength l w ∧ leastLength l w ≤ stripLength l w ∧ stripLength (grp l) w ≤ stripLength l w := by
  have hok := small_ok h
  have hpos : ∀ x ∈ l, 1 ≤ stripCount x w := fun x hx => by
    have hs := h.2 x hx
    have := strip_facts (small_need hs) (show x.W ≤ w by unfold smallNeed at hs; omega) (by omega) (by omega)
    exact this.2.2.1
  have e1 : stripLength l w = sumBy w l := by
    unfold stripLength
    rw [if_pos hok, pos_all (p := id) hpos, List.map_id]
  have hpick : ∀ x ∈ l, 1 ≤ stripCount (pick x w) w ∧ 0 ≤ (pick x w).H ∧ stripCount (pick x w) w * (pick x w).H ≤ stripCount x w * x.H := fun x hx => by
    have hs := h.2 x hx
    have h1 := hpos x hx
    have hst : smallNeed (turned x) := by unfold smallNeed turned at *; simp only; omega
    have h2 := (strip_facts (small_need hst) (show (turned x).W ≤ w by unfold smallNeed at hst; omega) (by omega) (by omega)).2.2.1
    unfold pick
    split
    · exact ⟨h1, by unfold smallNeed at hs; omega, Int.le_refl _⟩
    · rename_i hb
      refine ⟨h2, by unfold smallNeed at hst; omega, ?_⟩
      unfold betterWay at hb
      rw [show (stripCount x w != -1) = true by simp; omega, show (stripCount (turned x) w == -1) = false by simp; omega, Bool.true_and, Bool.false_or, decide_eq_true_iff] at hb
      show stripCount (turned x) w * x.W ≤ _
      omega
  have e2 : leastLength l w = sumBy w (l.map fun n => pick n w) := by
    unfold leastLength
    rw [if_pos hok, pos_all fun x hx => (hpick x hx).1]
  have hle : ∀ r : List Need, (∀ x ∈ r, x ∈ l) → sumBy w (r.map fun n => pick n w) ≤ sumBy w r := by
    intro r
    induction r with
    | nil => intro _; exact Int.le_refl _
    | cons x r ih =>
      intro hr
      rw [List.map_cons, sumBy_cons, sumBy_cons]
      have := ih fun y hy => hr y (List.mem_cons_of_mem _ hy)
      have := (hpick x (hr x (by simp))).2.2
      omega
  have hg := small_group h
  have e3 : stripLength (grp l) w = sumBy w (grp l) := by
    unfold stripLength
    rw [if_pos hg.2.1, pos_all (p := id), List.map_id]
    intro x hx
    have := hg.2.2 x hx
    exact (strip_facts (needs_all hg.2.1 x hx) (show x.W ≤ w by omega) (by omega) (by omega)).2.2.1
  refine ⟨e1, ?_, ?_, ?_⟩
  · rw [e2]
    refine sumBy_nonneg fun y hy => ?_
    obtain ⟨x, hx, rfl⟩ := List.mem_map.1 hy
    have := hpick x hx
    omega
  · rw [e1, e2]
    exact hle l fun x hx => hx
  · rw [e1, e3]
    exact sumBy_grp hw (by omega) h

end Go.Proofs.Ytgobjhaodlmoaaa
