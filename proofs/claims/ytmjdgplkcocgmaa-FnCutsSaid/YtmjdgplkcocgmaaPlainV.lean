/-
  Plain functions for the units that joins make; no program in sight.
-/
import Derived.Test.YtmjdgplkcocgmaaPlainY
import Derived.Test.YtmjdgplkcocgmaaPlainJ
set_option linter.unusedVariables false
namespace Go.Proofs.Ytmjdgplkcocgmaa

/-- steps as far as they go -/
def goL {σ α : Type} (f : σ → α → Option σ) : σ → List α → σ
  | s, [] => s
  | s, x :: xs => match f s x with
    | none => s
    | some t => goL f t xs
section
variable {σ α : Type} {f : σ → α → Option σ}
theorem goL_stop {s t : σ} {xs : List α} {k : Nat} {x : α} (h : xs[k]? = some x) (hp : runL f s (xs.take k) = some t) (hx : f t x = none) : goL f s xs = t := by
  induction xs generalizing s k with
  | nil => simp at h
  | cons y ys ih =>
    cases k with
    | zero =>
      have : s = t := by
        have : some s = some t := hp
        injection this
      subst this
      simp at h
      subst h
      unfold goL
      rw [hx]
    | succ k =>
      rw [List.take_succ_cons] at hp
      unfold runL at hp
      unfold goL
      cases hy : f s y with
      | none => rw [hy] at hp; cases hp
      | some u => rw [hy] at hp; exact ih (by simpa using h) hp
theorem goL_end {s t : σ} {xs : List α} (hp : runL f s xs = some t) : goL f s xs = t := by
  induction xs generalizing s with
  | nil =>
    have : some s = some t := hp
    injection this
  | cons y ys ih =>
    unfold runL at hp
    unfold goL
    cases hy : f s y with
    | none => rw [hy] at hp; cases hp
    | some u => rw [hy] at hp; exact ih hp
theorem goL_full {s t : σ} {xs : List α} {k : Nat} (hk : xs.length ≤ k) (hp : runL f s (xs.take k) = some t) : goL f s xs = t :=
  goL_end (by rw [← runL_full hk]; exact hp)
/-- what the start has and each step keeps -/
theorem goL_inv {xs : List α} (I : σ → Prop) {s : σ} (h0 : I s) (hs : ∀ x t v, I t → f t x = some v → I v) : I (goL f s xs) := by
  induction xs generalizing s with
  | nil => exact h0
  | cons y ys ih =>
    unfold goL
    cases hy : f s y with
    | none => exact h0
    | some u => exact ih (hs y s u h0 hy)
end

def fitJoin (j : Join) (a b : Patch) : Bool :=
  if j.Upright then decide (a.X + a.W = b.X) && decide (a.Y = b.Y) && decide (a.H = b.H) else decide (a.Y + a.H = b.Y) && decide (a.X = b.X) && decide (a.W = b.W)
def boxOf (j : Join) (a b : Patch) : Patch := if j.Upright then ⟨a.X, a.Y, a.W + b.W, a.H, a.Color⟩ else ⟨a.X, a.Y, a.W, a.H + b.H, a.Color⟩
def seamOf (j : Join) (a : Patch) : Int := if j.Upright then a.H else a.W
structure Sewn where
  out : List Patch
  seams : List Int
  used : List Bool
def pAt (out : List Patch) (u : Int) : Patch := out.getD u.toNat default
def freeJoin (s : Sewn) (j : Join) : Bool :=
  within j.A 0 ((s.out.length : Int) - 1) && within j.B 0 ((s.out.length : Int) - 1) && decide (j.A ≠ j.B) && !s.used.getD j.A.toNat false && !s.used.getD j.B.toNat false
def sewStep (s : Sewn) (j : Join) : Option Sewn :=
  if freeJoin s j && fitJoin j (pAt s.out j.A) (pAt s.out j.B) then
    some ⟨s.out ++ [boxOf j (pAt s.out j.A) (pAt s.out j.B)], s.seams ++ [seamOf j (pAt s.out j.A)], (s.used.set j.A.toNat true).set j.B.toNat true⟩
  else none
def sewStart (ps : List Patch) (m : Nat) : Sewn := ⟨ps, [], List.replicate (ps.length + m) false⟩
def sewn (ps : List Patch) (l : List Join) : Sewn := goL sewStep (sewStart ps l.length) l
def sewnUp (ps : List Patch) (l : List Join) (k : Nat) : Option Sewn := runL sewStep (sewStart ps l.length) (l.take k)

theorem sew_inv {s v : Sewn} {j : Join} (h : sewStep s j = some v) : freeJoin s j = true ∧ fitJoin j (pAt s.out j.A) (pAt s.out j.B) = true ∧
    v = ⟨s.out ++ [boxOf j (pAt s.out j.A) (pAt s.out j.B)], s.seams ++ [seamOf j (pAt s.out j.A)], (s.used.set j.A.toNat true).set j.B.toNat true⟩ := by
  unfold sewStep at h
  split at h
  · rename_i hc
    rw [Bool.and_eq_true] at hc
    injection h with h
    exact ⟨hc.1, hc.2, h.symm⟩
  · cases h
theorem sew_yes {s : Sewn} {j : Join} (h1 : freeJoin s j = true) (h2 : fitJoin j (pAt s.out j.A) (pAt s.out j.B) = true) :
    sewStep s j = some ⟨s.out ++ [boxOf j (pAt s.out j.A) (pAt s.out j.B)], s.seams ++ [seamOf j (pAt s.out j.A)], (s.used.set j.A.toNat true).set j.B.toNat true⟩ := by
  unfold sewStep
  rw [h1, h2]; rfl
theorem sew_no1 {s : Sewn} {j : Join} (h1 : freeJoin s j = false) : sewStep s j = none := by
  unfold sewStep
  rw [h1]; rfl
theorem sew_no2 {s : Sewn} {j : Join} (h2 : fitJoin j (pAt s.out j.A) (pAt s.out j.B) = false) : sewStep s j = none := by
  unfold sewStep
  rw [h2, Bool.and_false]; rfl
theorem free_parts {s : Sewn} {j : Join} (h : freeJoin s j = true) : (0 ≤ j.A ∧ j.A ≤ (s.out.length : Int) - 1) ∧ (0 ≤ j.B ∧ j.B ≤ (s.out.length : Int) - 1) ∧ j.A ≠ j.B ∧ s.used.getD j.A.toNat false = false ∧ s.used.getD j.B.toNat false = false := by
  unfold freeJoin at h
  simp only [Bool.and_eq_true, within_iff, decide_eq_true_iff, Bool.not_eq_true'] at h
  exact ⟨h.1.1.1.1, h.1.1.1.2, h.1.1.2, h.1.2, h.2⟩
/-- a box within w and h -/
def inBox (w h : Int) (p : Patch) : Prop := 0 ≤ p.X ∧ 0 ≤ p.Y ∧ 1 ≤ p.W ∧ 1 ≤ p.H ∧ p.X + p.W ≤ w ∧ p.Y + p.H ≤ h
theorem inBox_of {w h : Int} {p : Patch} (k : patchIn w h p = true) : inBox w h p := by
  have := patchIn_bd k
  unfold inBox
  omega
theorem box_in {w h : Int} {j : Join} {a b : Patch} (ha : inBox w h a) (hb : inBox w h b) (hf : fitJoin j a b = true) : inBox w h (boxOf j a b) := by
  unfold fitJoin at hf
  unfold boxOf
  unfold inBox at *
  split at hf
  · rename_i hu
    rw [if_pos hu]
    simp only [Bool.and_eq_true, decide_eq_true_iff] at hf
    simp only
    omega
  · rename_i hu
    rw [if_neg hu]
    simp only [Bool.and_eq_true, decide_eq_true_iff] at hf
    simp only
    omega
structure SewOk (w h : Int) (ps : List Patch) (k : Nat) (s : Sewn) : Prop where
  len : s.out.length = ps.length + k
  seams : s.seams.length = k
  boxes : ∀ (i : Nat) (p : Patch), s.out[i]? = some p → inBox w h p
  pre : s.out.take ps.length = ps
theorem pAt_in {w h : Int} {ps : List Patch} {k : Nat} {s : Sewn} (hs : SewOk w h ps k s) {u : Int} (h0 : 0 ≤ u) (h1 : u ≤ (s.out.length : Int) - 1) : s.out[u.toNat]? = some (pAt s.out u) ∧ inBox w h (pAt s.out u) := by
  have hlt : u.toNat < s.out.length := by omega
  have e : s.out[u.toNat]? = some (pAt s.out u) := by
    unfold pAt
    rw [List.getD_eq_getElem?_getD, List.getElem?_eq_getElem hlt]; rfl
  exact ⟨e, hs.boxes _ _ e⟩
theorem sew_ok {w h : Int} {ps : List Patch} {k : Nat} {s v : Sewn} {j : Join} (hs : SewOk w h ps k s) (hv : sewStep s j = some v) : SewOk w h ps (k + 1) v := by
  obtain ⟨h1, h2, rfl⟩ := sew_inv hv
  obtain ⟨ha, hb, _, _, _⟩ := free_parts h1
  have pa := (pAt_in hs ha.1 ha.2).2
  have pb := (pAt_in hs hb.1 hb.2).2
  refine ⟨by simp [hs.len]; omega, by simp [hs.seams], fun i p hp => ?_, ?_⟩
  · rw [List.getElem?_append] at hp
    split at hp
    · exact hs.boxes i p hp
    · have : i - s.out.length = 0 := by
        have := (List.getElem?_eq_some_iff.1 hp).1
        simp at this; omega
      rw [this] at hp
      simp only [List.getElem?_cons_zero, Option.some.injEq] at hp
      rw [← hp]
      exact box_in pa pb h2
  · show (s.out ++ _).take ps.length = ps
    rw [List.take_append_of_le_length (by rw [hs.len]; omega)]
    exact hs.pre
theorem sew_start {w h : Int} {ps : List Patch} (m : Nat) (hp : ps.all (patchIn w h) = true) : SewOk w h ps 0 (sewStart ps m) :=
  ⟨rfl, rfl, fun i p hi => inBox_of (List.all_eq_true.1 hp p (List.mem_of_getElem? hi)), List.take_length⟩
theorem sewnUp_ok {w h : Int} {ps : List Patch} {l : List Join} (hp : ps.all (patchIn w h) = true) : ∀ k, k ≤ l.length → ∀ s, sewnUp ps l k = some s → SewOk w h ps k s := by
  intro k
  induction k with
  | zero => intro _ s hs; injection hs with hs; exact hs ▸ sew_start _ hp
  | succ k ih =>
    intro hk s hs
    have hx : l[k]? = some (l[k]'(by omega)) := List.getElem?_eq_getElem _
    unfold sewnUp at hs
    rw [runL_take_succ hx] at hs
    cases ht : runL sewStep (sewStart ps l.length) (l.take k) with
    | none => rw [ht] at hs; cases hs
    | some t => rw [ht] at hs; exact sew_ok (ih (by omega) t ht) hs
/-- how far it goes -/
theorem sewn_ok {w h : Int} {ps : List Patch} {l : List Join} (hp : ps.all (patchIn w h) = true) : ∃ k, k ≤ l.length ∧ SewOk w h ps k (sewn ps l) ∧ sewnUp ps l k = some (sewn ps l) := by
  have main : ∀ q k, k + q = l.length → ∀ s, sewnUp ps l k = some s → ∃ k, k ≤ l.length ∧ SewOk w h ps k (sewn ps l) ∧ sewnUp ps l k = some (sewn ps l) := by
    intro q
    induction q with
    | zero =>
      intro k hk s hs
      have : sewn ps l = s := goL_full (by omega) hs
      rw [this]
      exact ⟨k, by omega, sewnUp_ok hp k (by omega) s hs, hs⟩
    | succ q ih =>
      intro k hk s hs
      have hx : l[k]? = some (l[k]'(by omega)) := List.getElem?_eq_getElem _
      cases hv : sewStep s (l[k]'(by omega)) with
      | none =>
        have : sewn ps l = s := goL_stop hx hs hv
        rw [this]
        exact ⟨k, by omega, sewnUp_ok hp k (by omega) s hs, hs⟩
      | some v => exact ih (k + 1) (by omega) v (runL_step hx hs hv)
  exact main l.length 0 (by omega) _ rfl

def unitOk (w h : Int) (ps : List Patch) (l : List Join) (u : Int) : Bool := layoutOk w h ps && within u 0 (((sewn ps l).out.length : Int) - 1)
def zeroP : Patch := ⟨0, 0, 0, 0, 0⟩
def unitBox (w h : Int) (ps : List Patch) (l : List Join) (u : Int) : Patch := if unitOk w h ps l u then pAt (sewn ps l).out u else zeroP
theorem unit_no {w h : Int} {ps : List Patch} {l : List Join} {u : Int} (k : unitOk w h ps l u = false) : unitBox w h ps l u = zeroP := by
  unfold unitBox
  rw [k]; rfl
theorem unit_yes {w h : Int} {ps : List Patch} {l : List Join} {u : Int} (k : unitOk w h ps l u = true) : unitBox w h ps l u = pAt (sewn ps l).out u := by
  unfold unitBox
  rw [k, if_pos rfl]
def areJoins (w h : Int) (ps : List Patch) (l : List Join) : Bool := layoutOk w h ps && decide ((l.length : Int) = (ps.length : Int) - 1) && decide ((sewn ps l).seams.length = l.length)
theorem are_no1 {w h : Int} {ps : List Patch} {l : List Join} (k : layoutOk w h ps = false) : false = areJoins w h ps l := by
  unfold areJoins
  rw [k]; rfl
theorem are_no2 {w h : Int} {ps : List Patch} {l : List Join} (k : (l.length : Int) ≠ (ps.length : Int) - 1) : false = areJoins w h ps l := by
  unfold areJoins
  rw [decide_eq_false k]; simp
theorem are_seams {w h : Int} {ps : List Patch} {l : List Join} (k : layoutOk w h ps = true) (k2 : (l.length : Int) = (ps.length : Int) - 1) : decide ((sewn ps l).seams.length = l.length) = areJoins w h ps l := by
  unfold areJoins
  rw [k, decide_eq_true k2]; simp
theorem are_boxes {w h : Int} {ps : List Patch} {l : List Join} (k : layoutOk w h ps = true) (k2 : (l.length : Int) = (ps.length : Int) - 1) : decide ((sewn ps l).out.length = ps.length + l.length) = areJoins w h ps l := by
  rw [← are_seams k k2]
  obtain ⟨q, hq, hs, _⟩ := sewn_ok (l := l) (layout_parts k).2.2.2.1
  rw [hs.len, hs.seams]
  congr 1
  rw [eq_iff_iff]
  omega
def maxI : List Int → Int := fun l => l.foldl max 0
theorem maxI_succ {l : List Int} {k : Nat} {x : Int} (hx : l[k]? = some x) : maxI (l.take (k + 1)) = max (maxI (l.take k)) x := by
  unfold maxI
  rw [List.take_add_one, hx, List.foldl_append]; rfl
def longestSeam (w h : Int) (ps : List Patch) (l : List Join) : Int := if areJoins w h ps l then maxI (sewn ps l).seams else -1
theorem long_no {w h : Int} {ps : List Patch} {l : List Join} (k : areJoins w h ps l = false) : -1 = longestSeam w h ps l := by
  unfold longestSeam
  rw [k]; rfl
theorem long_yes {w h : Int} {ps : List Patch} {l : List Join} (k : areJoins w h ps l = true) : longestSeam w h ps l = maxI (sewn ps l).seams := by
  unfold longestSeam
  rw [k, if_pos rfl]
theorem are_parts {w h : Int} {ps : List Patch} {l : List Join} (k : areJoins w h ps l = true) : layoutOk w h ps = true ∧ (l.length : Int) = (ps.length : Int) - 1 ∧ (sewn ps l).seams.length = l.length := by
  unfold areJoins at k
  simp only [Bool.and_eq_true, decide_eq_true_iff] at k
  exact ⟨k.1.1, k.1.2, k.2⟩
/-- a seam is the side of the unit that the join names first -/
theorem seam_at {ps : List Patch} {l : List Join} : ∀ k, ∀ s, sewnUp ps l k = some s → ∀ (i : Nat) (j : Join), i < k → l[i]? = some j → (0 ≤ j.A ∧ j.A.toNat < s.out.length) ∧ s.seams[i]? = some (seamOf j (pAt s.out j.A)) ∧ s.seams.length = min k l.length := by
  intro k
  induction k with
  | zero => intro s hs i j hi; omega
  | succ k ih =>
    intro s hs i j hi hj
    unfold sewnUp at hs
    cases hx : l[k]? with
    | none =>
      have hl : l.length ≤ k := by rw [List.getElem?_eq_none_iff] at hx; exact hx
      rw [show l.take (k + 1) = l.take k by rw [List.take_of_length_le (by omega), List.take_of_length_le hl]] at hs
      have hil := (List.getElem?_eq_some_iff.1 hj).1
      have := ih s hs i j (by omega) hj
      refine ⟨this.1, this.2.1, by omega⟩
    | some x =>
      have hk := (List.getElem?_eq_some_iff.1 hx).1
      rw [runL_take_succ hx] at hs
      cases ht : runL sewStep (sewStart ps l.length) (l.take k) with
      | none => rw [ht] at hs; cases hs
      | some t =>
        rw [ht] at hs
        obtain ⟨h1, h2, rfl⟩ := sew_inv (show sewStep t x = some s from hs)
        have hlen : t.seams.length = k := by
          cases k with
          | zero =>
            have : some (sewStart ps l.length) = some t := ht
            injection this with this
            rw [← this]; rfl
          | succ k =>
            have := (ih t ht k (l[k]'(by omega)) (by omega) (List.getElem?_eq_getElem _)).2.2
            omega
        have ext : ∀ u : Int, u.toNat < t.out.length → ∀ e, pAt (t.out ++ [e]) u = pAt t.out u := fun u hu e => by
          unfold pAt
          rw [List.getD_eq_getElem?_getD, List.getElem?_append_left hu, ← List.getD_eq_getElem?_getD]
        by_cases e : i = k
        · subst e
          rw [hx] at hj
          injection hj with hj
          subst hj
          obtain ⟨ha, _⟩ := free_parts h1
          refine ⟨⟨ha.1, by simp; omega⟩, ?_, by simp [hlen]; omega⟩
          rw [ext _ (by omega)]
          show (t.seams ++ _)[i]? = _
          rw [List.getElem?_append_right (by omega), hlen, Nat.sub_self]; rfl
        · obtain ⟨a1, a2, a3⟩ := ih t ht i j (by omega) hj
          refine ⟨⟨a1.1, by simp; omega⟩, ?_, by simp [hlen]; omega⟩
          rw [ext _ a1.2]
          show (t.seams ++ _)[i]? = _
          rw [List.getElem?_append_left (by omega)]
          exact a2

end Go.Proofs.Ytmjdgplkcocgmaa
