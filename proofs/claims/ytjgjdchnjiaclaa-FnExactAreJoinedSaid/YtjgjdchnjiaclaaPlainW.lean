/-
  Plain functions for the parts that lines make; no program in sight.
-/
import Derived.Test.YtjgjdchnjiaclaaPlainL
set_option linter.unusedVariables false
namespace Go.Proofs.Ytjgjdchnjiaclaa

def ptF (x : Line) : Nat := x.From.toNat
def ptT (x : Line) : Nat := x.To.toNat
def lab (L : List Int) (p : Nat) : Int := L.getD p 0
def ups (k : Nat) : List Int := (List.range k).map fun p : Nat => (p : Int)
theorem ups_len (k : Nat) : (ups k).length = k := by simp [ups]
theorem ups_succ (k : Nat) : ups (k + 1) = ups k ++ [(k : Int)] := by
  unfold ups
  rw [List.range_succ, List.map_append]; rfl
theorem ups_at {k p : Nat} (h : p < k) : lab (ups k) p = p := by simp [lab, ups, List.getD_eq_getElem?_getD, h]

/-- the labels of two points become one: in the whole list; at the two points alone -/
def mergeV (L : List Int) (x : Line) (v : Int) : Int := if v = max (lab L (ptF x)) (lab L (ptT x)) then min (lab L (ptF x)) (lab L (ptT x)) else v
def mergeStep (L : List Int) (x : Line) : List Int := L.map (mergeV L x)
def mergeAll (m : Nat) (l : List Line) : List Int := l.foldl mergeStep (ups m)
def lowOf (L : List Int) (x : Line) : Int := min (lab L (ptF x)) (lab L (ptT x))
def relaxStep (L : List Int) (x : Line) : List Int := (L.set (ptF x) (lowOf L x)).set (ptT x) (lowOf L x)
def relaxRound (l : List Line) (L : List Int) : List Int := l.foldl relaxStep L
def relaxN (l : List Line) (m : Nat) : Nat → List Int
  | 0 => ups m
  | k + 1 => relaxRound l (relaxN l m k)

theorem lab_map (L : List Int) (f : Int → Int) {p : Nat} (h : p < L.length) : lab (L.map f) p = f (lab L p) := by
  simp [lab, List.getD_eq_getElem?_getD, h]
theorem lab_set (L : List Int) (a : Nat) (v : Int) {p : Nat} (h : a < L.length) : lab (L.set a v) p = if p = a then v else lab L p := by
  unfold lab
  simp only [List.getD_eq_getElem?_getD, List.getElem?_set]
  by_cases e : a = p
  · subst e; rw [if_pos rfl, if_pos h, if_pos rfl]; rfl
  · rw [if_neg e, if_neg (Ne.symm e)]
theorem merge_len (L : List Int) (x : Line) : (mergeStep L x).length = L.length := by simp [mergeStep]
theorem relax_len (L : List Int) (x : Line) : (relaxStep L x).length = L.length := by simp [relaxStep]
theorem mergeAll_succ {m : Nat} {l : List Line} {k : Nat} {x : Line} (hx : l[k]? = some x) : mergeAll m (l.take (k + 1)) = mergeStep (mergeAll m (l.take k)) x := foldl_take_succ hx
theorem relaxRound_succ {L : List Int} {l : List Line} {k : Nat} {x : Line} (hx : l[k]? = some x) : relaxRound (l.take (k + 1)) L = relaxStep (relaxRound (l.take k) L) x := foldl_take_succ hx
theorem mergeAll_len (m : Nat) (l : List Line) : (mergeAll m l).length = m := by
  have h : ∀ (l : List Line) (L : List Int), (l.foldl mergeStep L).length = L.length := by
    intro l
    induction l with
    | nil => intro L; rfl
    | cons x l ih => intro L; rw [List.foldl_cons, ih, merge_len]
  unfold mergeAll
  rw [h, ups_len]
theorem relaxRound_len (l : List Line) (L : List Int) : (relaxRound l L).length = L.length := by
  unfold relaxRound
  induction l generalizing L with
  | nil => rfl
  | cons x l ih => rw [List.foldl_cons, ih, relax_len]
theorem relaxN_len (l : List Line) (m k : Nat) : (relaxN l m k).length = m := by
  induction k with
  | zero => exact ups_len m
  | succ k ih => show (relaxRound l (relaxN l m k)).length = m; rw [relaxRound_len, ih]
theorem relax_lab {L : List Int} {x : Line} (hf : ptF x < L.length) (ht : ptT x < L.length) (p : Nat) : lab (relaxStep L x) p = if p = ptT x ∨ p = ptF x then lowOf L x else lab L p := by
  unfold relaxStep
  rw [lab_set _ _ _ (by rw [List.length_set]; exact ht), lab_set _ _ _ hf]
  by_cases e : p = ptT x
  · rw [if_pos e, if_pos (.inl e)]
  · by_cases e2 : p = ptF x
    · rw [if_neg e, if_pos e2, if_pos (.inr e2)]
    · rw [if_neg e, if_neg e2, if_neg (by omega)]

/-! ### what hangs together -/
def Edge (l : List Line) (b c : Nat) : Prop := ∃ x ∈ l, (ptF x = b ∧ ptT x = c) ∨ (ptT x = b ∧ ptF x = c)
inductive Conn (l : List Line) (a : Nat) : Nat → Prop
  | refl : Conn l a a
  | step {b c : Nat} : Conn l a b → Edge l b c → Conn l a c
theorem Edge.symm {l : List Line} {b c : Nat} (h : Edge l b c) : Edge l c b := by
  obtain ⟨x, hx, h⟩ := h
  exact ⟨x, hx, by omega⟩
theorem Conn.trans {l : List Line} {a b c : Nat} (h : Conn l a b) (k : Conn l b c) : Conn l a c := by
  induction k with
  | refl => exact h
  | step _ e ih => exact ih.step e
theorem Conn.symm {l : List Line} {a b : Nat} (h : Conn l a b) : Conn l b a := by
  induction h with
  | refl => exact .refl
  | step _ e ih => exact (Conn.step .refl e.symm).trans ih
theorem Conn.mono {l l' : List Line} (hs : ∀ x ∈ l, x ∈ l') {a b : Nat} (h : Conn l a b) : Conn l' a b := by
  induction h with
  | refl => exact .refl
  | step _ e ih =>
    obtain ⟨x, hx, h⟩ := e
    exact ih.step ⟨x, hs x hx, h⟩
theorem Conn.end_ {l : List Line} {a b : Nat} (h : Conn l a b) : a = b ∨ ∃ c, Edge l c b := by
  cases h with
  | refl => exact .inl rfl
  | step _ e => exact .inr ⟨_, e⟩

/-- labels that name, for each point, an earlier point that hangs together with it -/
structure Sound (l : List Line) (m : Nat) (L : List Int) : Prop where
  len : L.length = m
  at_ : ∀ p, p < m → ∃ q : Nat, lab L p = q ∧ q ≤ p ∧ Conn l p q
/-- each line's points bear one label -/
def Even (l : List Line) (L : List Int) : Prop := ∀ x ∈ l, lab L (ptF x) = lab L (ptT x)
def InRange (l : List Line) (m : Nat) : Prop := ∀ x ∈ l, ptF x < m ∧ ptT x < m

theorem sound_ups (l : List Line) (m : Nat) : Sound l m (ups m) := ⟨ups_len m, fun p hp => ⟨p, ups_at hp, Nat.le_refl _, .refl⟩⟩
theorem Even.conn {l : List Line} {L : List Int} (h : Even l L) {a b : Nat} (k : Conn l a b) : lab L a = lab L b := by
  induction k with
  | refl => rfl
  | step _ e ih =>
    obtain ⟨x, hx, e⟩ := e
    have := h x hx
    rcases e with ⟨rfl, rfl⟩ | ⟨rfl, rfl⟩
    · rw [ih, this]
    · rw [ih, this]
theorem Sound.conn {l : List Line} {m : Nat} {L : List Int} (h : Sound l m L) {a b : Nat} (ha : a < m) (hb : b < m) (e : lab L a = lab L b) : Conn l a b := by
  obtain ⟨q, h1, _, h2⟩ := h.at_ a ha
  obtain ⟨r, h3, _, h4⟩ := h.at_ b hb
  have : q = r := by omega
  subst this
  exact h2.trans h4.symm

theorem merge_good {l : List Line} {m : Nat} (hr : InRange l m) : ∀ k, k ≤ l.length → Sound (l.take k) m (mergeAll m (l.take k)) ∧ Even (l.take k) (mergeAll m (l.take k)) := by
  intro k
  induction k with
  | zero => intro _; exact ⟨sound_ups _ m, fun x hx => by simp at hx⟩
  | succ k ih =>
    intro hk
    obtain ⟨hS, hE⟩ := ih (by omega)
    have hx : l[k]? = some (l[k]'(by omega)) := List.getElem?_eq_getElem _
    have hxr := hr _ (List.mem_of_getElem? hx)
    generalize (l[k]'(by omega)) = x at hx hxr
    have ht : l.take (k + 1) = l.take k ++ [x] := by rw [List.take_add_one, hx]; rfl
    have hsub : ∀ y ∈ l.take k, y ∈ l.take (k + 1) := fun y hy => by rw [ht]; exact List.mem_append_left _ hy
    have hxm : x ∈ l.take (k + 1) := by rw [ht]; simp
    have hval : ∀ p, p < m → lab (mergeAll m (l.take (k + 1))) p = mergeV (mergeAll m (l.take k)) x (lab (mergeAll m (l.take k)) p) := fun p hp => by
      rw [mergeAll_succ hx]
      exact lab_map _ _ (by rw [mergeAll_len]; exact hp)
    have hl := mergeAll_len m (l.take (k + 1))
    generalize mergeAll m (l.take (k + 1)) = L' at hval hl ⊢
    generalize mergeAll m (l.take k) = L at hS hE hval
    obtain ⟨a, ha1, ha2, ha3⟩ := hS.at_ _ hxr.1
    obtain ⟨b, hb1, hb2, hb3⟩ := hS.at_ _ hxr.2
    have hab : Conn (l.take (k + 1)) a b := ((ha3.mono hsub).symm.step ⟨x, hxm, .inl ⟨rfl, rfl⟩⟩).trans (hb3.mono hsub)
    refine ⟨⟨hl, fun p hp => ?_⟩, fun y hy => ?_⟩
    · obtain ⟨q, hq1, hq2, hq3⟩ := hS.at_ p hp
      rw [hval p hp]
      unfold mergeV
      rw [ha1, hb1, hq1]
      split
      · rename_i e
        by_cases hle : a ≤ b
        · have : q = b := by omega
          subst this
          exact ⟨a, by omega, by omega, (hq3.mono hsub).trans hab.symm⟩
        · have : q = a := by omega
          subst this
          exact ⟨b, by omega, by omega, (hq3.mono hsub).trans hab⟩
      · exact ⟨q, rfl, hq2, hq3.mono hsub⟩
    · rw [ht] at hy
      rcases List.mem_append.1 hy with hy | hy
      · have h1 := hr y (List.mem_of_mem_take hy)
        rw [hval _ h1.1, hval _ h1.2, hE y hy]
      · obtain rfl : y = x := by simpa using hy
        rw [hval _ hxr.1, hval _ hxr.2]
        unfold mergeV
        rw [ha1, hb1]
        split <;> split <;> omega
theorem merge_all {l : List Line} {m : Nat} (hr : InRange l m) : Sound l m (mergeAll m l) ∧ Even l (mergeAll m l) := by
  have := merge_good hr l.length (Nat.le_refl _)
  rwa [List.take_length] at this

theorem relax_sound {l : List Line} {m : Nat} (hr : InRange l m) {L : List Int} (h : Sound l m L) {x : Line} (hx : x ∈ l) : Sound l m (relaxStep L x) := by
  obtain ⟨hf, ht⟩ := hr x hx
  refine ⟨by rw [relax_len]; exact h.len, fun p hp => ?_⟩
  rw [relax_lab (by rw [h.len]; exact hf) (by rw [h.len]; exact ht)]
  obtain ⟨a, ha1, ha2, ha3⟩ := h.at_ _ hf
  obtain ⟨b, hb1, hb2, hb3⟩ := h.at_ _ ht
  have hE : Edge l (ptF x) (ptT x) := ⟨x, hx, .inl ⟨rfl, rfl⟩⟩
  split
  · rename_i e
    unfold lowOf
    rw [ha1, hb1]
    rcases e with rfl | rfl
    · by_cases hle : a ≤ b
      · exact ⟨a, by omega, by omega, (Conn.step .refl hE.symm).trans ha3⟩
      · exact ⟨b, by omega, by omega, hb3⟩
    · by_cases hle : a ≤ b
      · exact ⟨a, by omega, by omega, ha3⟩
      · exact ⟨b, by omega, by omega, (Conn.step .refl hE).trans hb3⟩
  · exact h.at_ p hp
theorem relax_le {L : List Int} {x : Line} (hf : ptF x < L.length) (ht : ptT x < L.length) (p : Nat) : lab (relaxStep L x) p ≤ lab L p := by
  rw [relax_lab hf ht]
  unfold lowOf
  split
  · rename_i e
    rcases e with rfl | rfl <;> omega
  · exact Int.le_refl _

/-- the least label that there can be -/
theorem sound_ge {l : List Line} {m : Nat} (hr : InRange l m) {L : List Int} (h : Sound l m L) {p : Nat} (hp : p < m) : lab (mergeAll m l) p ≤ lab L p := by
  obtain ⟨hS, hE⟩ := merge_all hr
  obtain ⟨q, h1, h2, h3⟩ := h.at_ p hp
  rw [hE.conn h3, h1]
  obtain ⟨r, h4, h5, _⟩ := hS.at_ q (by omega)
  omega

/-- one round: what is right stays right; the lines' points become right if one of them was -/
theorem round_right {l : List Line} {m : Nat} (hr : InRange l m) {L : List Int} (h : Sound l m L) : ∀ k, k ≤ l.length →
    Sound l m (relaxRound (l.take k) L) ∧ (∀ p, p < m → lab L p = lab (mergeAll m l) p → lab (relaxRound (l.take k) L) p = lab (mergeAll m l) p) ∧
    ∀ x ∈ l.take k, (lab L (ptF x) = lab (mergeAll m l) (ptF x) ∨ lab L (ptT x) = lab (mergeAll m l) (ptT x)) →
      lab (relaxRound (l.take k) L) (ptF x) = lab (mergeAll m l) (ptF x) ∧ lab (relaxRound (l.take k) L) (ptT x) = lab (mergeAll m l) (ptT x) := by
  obtain ⟨_, hE⟩ := merge_all hr
  intro k
  induction k with
  | zero => intro _; exact ⟨h, fun p _ e => e, fun x hx => by simp at hx⟩
  | succ k ih =>
    intro hk
    obtain ⟨h1, h2, h3⟩ := ih (by omega)
    have hx : l[k]? = some (l[k]'(by omega)) := List.getElem?_eq_getElem _
    have hxm : l[k]'(by omega) ∈ l := List.mem_of_getElem? hx
    have hxr := hr _ hxm
    generalize (l[k]'(by omega)) = x at hx hxr hxm
    have ht : l.take (k + 1) = l.take k ++ [x] := by rw [List.take_add_one, hx]; rfl
    rw [relaxRound_succ hx]
    generalize relaxRound (l.take k) L = Q at h1 h2 h3 ⊢
    have hS := relax_sound hr h1 hxm
    have hf : ptF x < Q.length := by rw [h1.len]; exact hxr.1
    have htt : ptT x < Q.length := by rw [h1.len]; exact hxr.2
    have keep : ∀ p, p < m → lab Q p = lab (mergeAll m l) p → lab (relaxStep Q x) p = lab (mergeAll m l) p := fun p hp e => by
      have a1 := relax_le hf htt p
      have a2 := sound_ge hr hS hp
      omega
    refine ⟨hS, fun p hp e => keep p hp (h2 p hp e), fun y hy e => ?_⟩
    have hyr := hr y (List.mem_of_mem_take hy)
    rw [ht] at hy
    rcases List.mem_append.1 hy with hy | hy
    · obtain ⟨e1, e2⟩ := h3 y hy e
      exact ⟨keep _ hyr.1 e1, keep _ hyr.2 e2⟩
    · obtain rfl : y = x := by simpa using hy
      have e0 := hE y hxm
      have g1 := sound_ge hr h1 hyr.1
      have g2 := sound_ge hr h1 hyr.2
      have hlow : lowOf Q y = lab (mergeAll m l) (ptF y) := by
        unfold lowOf
        rcases e with e | e
        · have := h2 _ hyr.1 e
          omega
        · have := h2 _ hyr.2 e
          omega
      rw [relax_lab hf htt, relax_lab hf htt, if_pos (.inr rfl), if_pos (.inl rfl), hlow, ← e0]
      exact ⟨rfl, rfl⟩

/-- how many of the first k points have a wrong label -/
def wrong (m : Nat) (l : List Line) (L : List Int) : Nat → Nat
  | 0 => 0
  | k + 1 => wrong m l L k + (if lab L k = lab (mergeAll m l) k then 0 else 1)
theorem wrong_le (m : Nat) (l : List Line) (L : List Int) (k : Nat) : wrong m l L k ≤ k := by
  induction k with
  | zero => exact Nat.le_refl _
  | succ k ih => unfold wrong; split <;> omega
theorem wrong_mono {m : Nat} {l : List Line} {L L' : List Int} {k : Nat} (h : ∀ p, p < k → lab L p = lab (mergeAll m l) p → lab L' p = lab (mergeAll m l) p) : wrong m l L' k ≤ wrong m l L k := by
  induction k with
  | zero => exact Nat.le_refl _
  | succ k ih =>
    have := ih fun p hp => h p (by omega)
    have := h k (by omega)
    unfold wrong
    by_cases e : lab L k = lab (mergeAll m l) k
    · rw [if_pos e, if_pos (by omega)]; omega
    · rw [if_neg e]
      split <;> omega
theorem wrong_lt {m : Nat} {l : List Line} {L L' : List Int} {k p : Nat} (h : ∀ p, p < k → lab L p = lab (mergeAll m l) p → lab L' p = lab (mergeAll m l) p) (hp : p < k) (h1 : lab L p ≠ lab (mergeAll m l) p) (h2 : lab L' p = lab (mergeAll m l) p) : wrong m l L' k < wrong m l L k := by
  induction k with
  | zero => omega
  | succ k ih =>
    unfold wrong
    by_cases e : p = k
    · subst e
      rw [if_pos h2, if_neg h1]
      have := wrong_mono (k := p) fun q hq => h q (by omega)
      omega
    · have := ih (fun q hq => h q (by omega)) (by omega)
      have := h k (by omega)
      by_cases e2 : lab L k = lab (mergeAll m l) k
      · rw [if_pos e2, if_pos (by omega)]; omega
      · rw [if_neg e2]
        split <;> omega
theorem wrong_zero {m : Nat} {l : List Line} {L : List Int} {k : Nat} (h : wrong m l L k = 0) : ∀ p, p < k → lab L p = lab (mergeAll m l) p := by
  induction k with
  | zero => intro p hp; omega
  | succ k ih =>
    unfold wrong at h
    intro p hp
    by_cases e : p = k
    · subst e
      by_cases e2 : lab L p = lab (mergeAll m l) p
      · exact e2
      · rw [if_neg e2] at h; omega
    · exact ih (by omega) p (by omega)
/-- between a right and a wrong point there is a line with one of each -/
theorem border {l : List Line} {P : Nat → Prop} {a b : Nat} (h : Conn l a b) (ha : P a) (hb : ¬ P b) : ∃ x ∈ l, (P (ptF x) ∧ ¬ P (ptT x)) ∨ (P (ptT x) ∧ ¬ P (ptF x)) := by
  induction h with
  | refl => exact absurd ha hb
  | @step c d _ e ih =>
    by_cases hc : P c
    · obtain ⟨x, hx, e⟩ := e
      rcases e with ⟨rfl, rfl⟩ | ⟨rfl, rfl⟩
      · exact ⟨x, hx, .inl ⟨hc, hb⟩⟩
      · exact ⟨x, hx, .inr ⟨hc, hb⟩⟩
    · exact ih hc
theorem round_less {l : List Line} {m : Nat} (hr : InRange l m) {L : List Int} (h : Sound l m L) : wrong m l (relaxRound l L) m ≤ wrong m l L m - 1 := by
  have hR := round_right hr h l.length (Nat.le_refl _)
  rw [List.take_length] at hR
  obtain ⟨h1, h2, h3⟩ := hR
  by_cases hz : wrong m l L m = 0
  · have := wrong_mono (k := m) h2
    omega
  · obtain ⟨hS, hE⟩ := merge_all hr
    have hex : ∃ p, p < m ∧ lab L p ≠ lab (mergeAll m l) p := by
      apply Classical.byContradiction
      intro hn
      apply hz
      have : ∀ k, k ≤ m → wrong m l L k = 0 := by
        intro k
        induction k with
        | zero => intro _; rfl
        | succ k ih =>
          intro hk
          unfold wrong
          rw [ih (by omega), if_pos]
          apply Classical.byContradiction
          intro hne
          exact hn ⟨k, by omega, hne⟩
      exact this m (Nat.le_refl _)
    obtain ⟨p, hp, hw⟩ := hex
    obtain ⟨c, hc1, hc2, hc3⟩ := hS.at_ p hp
    have hcm : c < m := by omega
    have hcc : lab (mergeAll m l) c = c := by rw [← hE.conn hc3, hc1]
    have hcr : lab L c = lab (mergeAll m l) c := by
      obtain ⟨q, hq1, hq2, _⟩ := h.at_ c hcm
      have := sound_ge hr h hcm
      omega
    obtain ⟨x, hx, hxx⟩ := border (P := fun p => lab L p = lab (mergeAll m l) p) hc3.symm hcr hw
    have hxr := hr x hx
    rcases hxx with ⟨a1, a2⟩ | ⟨a1, a2⟩
    · have := wrong_lt h2 hxr.2 a2 (h3 x hx (.inl a1)).2
      omega
    · have := wrong_lt h2 hxr.1 a2 (h3 x hx (.inr a1)).1
      omega
theorem relaxN_good {l : List Line} {m : Nat} (hr : InRange l m) (k : Nat) : Sound l m (relaxN l m k) ∧ wrong m l (relaxN l m k) m ≤ m - k := by
  induction k with
  | zero => exact ⟨sound_ups l m, wrong_le _ _ _ _⟩
  | succ k ih =>
    have h1 := round_right hr ih.1 l.length (Nat.le_refl _)
    rw [List.take_length] at h1
    have h2 := round_less hr ih.1
    exact ⟨h1.1, by show wrong m l (relaxRound l (relaxN l m k)) m ≤ _; omega⟩
/-- both ways of finding the parts give the same labels -/
theorem parts_eq {l : List Line} {m : Nat} (hr : InRange l m) : relaxN l m m = mergeAll m l := by
  have h := relaxN_good hr m
  have h1 := wrong_zero (show wrong m l (relaxN l m m) m = 0 by omega)
  apply List.ext_getElem (by rw [relaxN_len, mergeAll_len])
  intro i hi hi'
  have := h1 i (by rw [relaxN_len] at hi; exact hi)
  unfold lab at this
  simpa [List.getD_eq_getElem?_getD, hi, hi'] using this

/-! ### whether all lines hang together -/
def headAt (d L : List Int) (p : Nat) : Bool := decide (0 < d.getD p 0) && decide (lab L p = (p : Int))
def headsUpTo (d L : List Int) (k : Nat) : List Int := ((List.range k).filter (headAt d L)).map fun p : Nat => (p : Int)
def headsOf (m : Nat) (l : List Line) : List Int := headsUpTo (endsOf m l) (mergeAll m l) m
def joinedAt (m : Nat) (l : List Line) (k : Nat) : Bool := decide (lab (mergeAll m l) (ptF (l.getD k default)) = lab (mergeAll m l) (ptF (l.getD 0 default)))
def areJoined (n : Int) (l : List Line) : Bool := linesOk n l && (List.range l.length).all (joinedAt n.toNat l)
theorem headsUpTo_succ (d L : List Int) (k : Nat) : headsUpTo d L (k + 1) = headsUpTo d L k ++ (if headAt d L k then [(k : Int)] else []) := by
  unfold headsUpTo
  rw [List.range_succ, List.filter_append, List.map_append]
  congr 1
  by_cases h : headAt d L k = true
  · simp [h]
  · simp [h]
theorem headsUpTo_len (d L : List Int) (k : Nat) : (headsUpTo d L k).length ≤ k := by
  unfold headsUpTo
  rw [List.length_map]
  have := List.length_filter_le (headAt d L) (List.range k)
  simpa using this

theorem inRange_of {n : Int} {l : List Line} (h : linesOk n l = true) : InRange l n.toNat := by
  obtain ⟨h1, h2, h3⟩ := linesOk_parts h
  intro x hx
  have := lineOk_bd (List.all_eq_true.1 h3 x hx)
  unfold ptF ptT
  omega
theorem bump_getD (d : List Int) (i j : Nat) : (bump d i).getD j 0 = if i = j ∧ i < d.length then d.getD j 0 + 1 else d.getD j 0 := by
  unfold bump
  simp only [List.getD_eq_getElem?_getD, List.getElem?_set]
  by_cases e : i = j
  · subst e
    by_cases h : i < d.length
    · simp [h]
    · simp [h]
  · simp [e]
theorem ends_pos {m : Nat} {l : List Line} (hr : InRange l m) {p : Nat} (hp : p < m) : 0 < (endsOf m l).getD p 0 ↔ ∃ x ∈ l, ptF x = p ∨ ptT x = p := by
  have main : ∀ k, k ≤ l.length → (0 < (endsOf m (l.take k)).getD p 0 ↔ ∃ x ∈ l.take k, ptF x = p ∨ ptT x = p) := by
    intro k
    induction k with
    | zero =>
      intro _
      constructor
      · intro h
        exfalso
        have : (endsOf m (l.take 0)).getD p 0 = 0 := by
          show (List.replicate m (0 : Int)).getD p 0 = 0
          simp only [List.getD_eq_getElem?_getD, List.getElem?_replicate]
          split <;> rfl
        omega
      · rintro ⟨x, hx, _⟩
        simp at hx
    | succ k ih =>
      intro hk
      have hx : l[k]? = some (l[k]'(by omega)) := List.getElem?_eq_getElem _
      have hxr := hr _ (List.mem_of_getElem? hx)
      generalize (l[k]'(by omega)) = x at hx hxr
      have ht : l.take (k + 1) = l.take k ++ [x] := by rw [List.take_add_one, hx]; rfl
      have hb := endsOf_bd m (l.take k) p
      have hl := endsOf_len m (l.take k)
      rw [endsOf_succ hx, bump_getD, bump_getD, bump_len, hl]
      have hF : x.From.toNat = ptF x := rfl
      have hT : x.To.toNat = ptT x := rfl
      rw [hF, hT]
      have ih := ih (by omega)
      constructor
      · intro h
        rw [ht]
        by_cases e1 : ptT x = p
        · exact ⟨x, by simp, .inr e1⟩
        · by_cases e2 : ptF x = p
          · exact ⟨x, by simp, .inl e2⟩
          · rw [if_neg (by omega), if_neg (by omega)] at h
            obtain ⟨y, hy, h2⟩ := ih.1 h
            exact ⟨y, List.mem_append_left _ hy, h2⟩
      · rintro ⟨y, hy, h2⟩
        rw [ht] at hy
        rcases List.mem_append.1 hy with hy | hy
        · have := ih.2 ⟨y, hy, h2⟩
          split <;> split <;> omega
        · obtain rfl : y = x := by simpa using hy
          split <;> split <;> omega
  have := main l.length (Nat.le_refl _)
  rwa [List.take_length] at this
theorem heads_mem {m : Nat} {l : List Line} {v : Int} : v ∈ headsOf m l ↔ ∃ p : Nat, p < m ∧ v = p ∧ 0 < (endsOf m l).getD p 0 ∧ lab (mergeAll m l) p = (p : Int) := by
  unfold headsOf headsUpTo
  rw [List.mem_map]
  constructor
  · rintro ⟨p, hp, rfl⟩
    rw [List.mem_filter] at hp
    unfold headAt at hp
    rw [Bool.and_eq_true] at hp
    exact ⟨p, List.mem_range.1 hp.1, rfl, by simpa using hp.2.1, by simpa using hp.2.2⟩
  · rintro ⟨p, hp, rfl, h1, h2⟩
    refine ⟨p, ?_, rfl⟩
    rw [List.mem_filter]
    unfold headAt
    exact ⟨List.mem_range.2 hp, by rw [decide_eq_true h1, decide_eq_true h2]; rfl⟩
theorem heads_nodup (m : Nat) (l : List Line) : (headsOf m l).Nodup := by
  unfold headsOf headsUpTo List.Nodup
  rw [List.pairwise_map]
  exact (List.nodup_range.filter _).imp fun h => by omega
theorem line_head {m : Nat} {l : List Line} (hr : InRange l m) {x : Line} (hx : x ∈ l) : lab (mergeAll m l) (ptF x) ∈ headsOf m l := by
  obtain ⟨hS, hE⟩ := merge_all hr
  obtain ⟨hf, ht⟩ := hr x hx
  obtain ⟨q, h1, h2, h3⟩ := hS.at_ _ hf
  rw [heads_mem]
  refine ⟨q, by omega, h1, ?_, by rw [← hE.conn h3, h1]⟩
  rw [ends_pos hr (by omega)]
  rcases h3.end_ with e | ⟨c, y, hy, e⟩
  · exact ⟨x, hx, .inl e⟩
  · exact ⟨y, hy, by omega⟩
theorem joined_eq {n : Int} {l : List Line} (h : linesOk n l = true) : decide ((headsOf n.toNat l).length ≤ 1) = areJoined n l := by
  have hr := inRange_of h
  obtain ⟨hS, hE⟩ := merge_all hr
  unfold areJoined
  rw [h, Bool.true_and, Bool.eq_iff_iff, decide_eq_true_iff, List.all_eq_true]
  constructor
  · intro h1 k hk
    have hk := List.mem_range.1 hk
    unfold joinedAt
    rw [decide_eq_true_iff]
    have g0 : l.getD 0 default ∈ l := by
      rw [List.getD_eq_getElem?_getD, List.getElem?_eq_getElem (show 0 < l.length by omega)]
      exact List.getElem_mem _
    have gk : l.getD k default ∈ l := by
      rw [List.getD_eq_getElem?_getD, List.getElem?_eq_getElem hk]
      exact List.getElem_mem _
    have m0 := line_head hr g0
    have mk := line_head hr gk
    match hh : headsOf n.toNat l, h1 with
    | [], _ => rw [hh] at m0; simp at m0
    | [v], _ =>
      rw [hh] at m0 mk
      rw [List.mem_singleton] at m0 mk
      rw [mk, m0]
    | a :: b :: c, h1 => simp at h1
  · intro h1
    match hh : headsOf n.toNat l with
    | [] => simp
    | [v] => simp
    | a :: b :: c =>
      exfalso
      have hnd := heads_nodup n.toNat l
      rw [hh] at hnd
      have hne : a ≠ b := by
        have := List.nodup_cons.1 hnd
        intro e
        exact this.1 (by rw [e]; simp)
      have ha : a ∈ headsOf n.toNat l := by rw [hh]; simp
      have hb : b ∈ headsOf n.toNat l := by rw [hh]; simp
      obtain ⟨p, hp, rfl, hp1, hp2⟩ := heads_mem.1 ha
      obtain ⟨q, hq, rfl, hq1, hq2⟩ := heads_mem.1 hb
      rw [ends_pos hr hp] at hp1
      rw [ends_pos hr hq] at hq1
      have key : ∀ y ∈ l, lab (mergeAll n.toNat l) (ptF y) = lab (mergeAll n.toNat l) (ptF (l.getD 0 default)) := fun y hy => by
        obtain ⟨k, hk⟩ := List.getElem?_of_mem hy
        have := h1 k (List.mem_range.2 (List.getElem?_eq_some_iff.1 hk).1)
        unfold joinedAt at this
        rw [decide_eq_true_iff, List.getD_eq_getElem?_getD, hk] at this
        exact this
      have lp : ∀ r : Nat, (∃ x ∈ l, ptF x = r ∨ ptT x = r) → lab (mergeAll n.toNat l) r = lab (mergeAll n.toNat l) (ptF (l.getD 0 default)) := by
        rintro r ⟨x, hx, e⟩
        have e1 := hE x hx
        have e2 := key x hx
        rcases e with rfl | rfl
        · exact e2
        · rw [← e1]; exact e2
      have := lp p hp1
      have := lp q hq1
      omega
theorem joined_no {n : Int} {l : List Line} (h : linesOk n l = false) : false = areJoined n l := by
  unfold areJoined
  rw [h]; rfl
theorem joined_bad {n : Int} {l : List Line} {k : Nat} (hk : k < l.length) (h : joinedAt n.toNat l k = false) : false = areJoined n l := by
  unfold areJoined
  rw [List.all_eq_false.2 ⟨k, List.mem_range.2 hk, by rw [h]; simp⟩, Bool.and_false]
theorem joined_end {n : Int} {l : List Line} (h : linesOk n l = true) (hk : ∀ k, 1 ≤ k → k < l.length → joinedAt n.toNat l k = true) : true = areJoined n l := by
  unfold areJoined
  rw [h, List.all_eq_true.2 fun k hk' => ?_]
  · rfl
  · by_cases e : k = 0
    · subst e
      unfold joinedAt
      exact decide_eq_true rfl
    · exact hk k (by omega) (List.mem_range.1 hk')

end Go.Proofs.Ytjgjdchnjiaclaa
