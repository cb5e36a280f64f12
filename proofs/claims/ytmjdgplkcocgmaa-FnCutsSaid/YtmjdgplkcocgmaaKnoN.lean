/-
  Straight seams, plain: whichever cut is taken first; a part that cannot be cut has at least five patches.
-/
import Derived.Test.YtmjdgplkcocgmaaKnoK
set_option linter.unusedVariables false
namespace Go.Proofs.Ytmjdgplkcocgmaa

/-! ### two cuts, one after the other -/
theorem filter_imp {α : Type} {p q : α → Bool} (l : List α) (h : ∀ x ∈ l, p x = true → q x = true) : (l.filter q).filter p = l.filter p := by
  rw [List.filter_filter]
  refine List.filter_congr fun x hx => ?_
  cases hp : p x
  · rfl
  · rw [h x hx hp]; rfl
theorem lay_eq {w w' h h' : Int} {ps ps' : List Patch} (e1 : w = w') (e2 : h = h') (e3 : ps = ps') : (⟨w, h, ps⟩ : Lay) = ⟨w', h', ps'⟩ := by subst e1 e2 e3; rfl
theorem before_moved {u : Bool} {a b : Int} (p : Patch) : before ⟨u, b - a⟩ (moved ⟨u, a⟩ p) = before ⟨u, b⟩ p := by
  rw [Bool.eq_iff_iff, before_iff, before_iff]
  unfold moved
  cases u <;> simp <;> omega
theorem behind_moved {u : Bool} {a b : Int} (p : Patch) : behind ⟨u, b - a⟩ (moved ⟨u, a⟩ p) = behind ⟨u, b⟩ p := by
  unfold behind moved
  cases u <;> simp <;> omega
theorem crossed_moved {u : Bool} {a b : Int} (p : Patch) : crossed ⟨u, b - a⟩ (moved ⟨u, a⟩ p) = crossed ⟨u, b⟩ p := by
  unfold crossed
  rw [before_moved, behind_moved]
theorem moved_moved {u : Bool} {a b : Int} (p : Patch) : moved ⟨u, b - a⟩ (moved ⟨u, a⟩ p) = moved ⟨u, b⟩ p := by
  unfold moved
  cases u
  · simp; omega
  · simp; omega
theorem before_lt {u : Bool} {a b : Int} (hab : a < b) {p : Patch} (h : before ⟨u, a⟩ p = true) : before ⟨u, b⟩ p = true := by
  rw [before_iff] at *
  rcases h with ⟨h1, h2⟩ | ⟨h1, h2⟩
  · exact .inl ⟨h1, by simp only at *; omega⟩
  · exact .inr ⟨h1, by simp only at *; omega⟩
theorem par_one (u : Bool) (a b : Int) (hab : a < b) (l : Lay) : subA ⟨u, a⟩ (subA ⟨u, b⟩ l) = subA ⟨u, a⟩ l := by
  unfold subA wA hA
  refine lay_eq ?_ ?_ ?_
  · cases u <;> simp
  · cases u <;> simp
  · show partA ⟨u, a⟩ (partA ⟨u, b⟩ l.ps) = partA ⟨u, a⟩ l.ps
    unfold partA
    exact filter_imp _ fun x _ h => before_lt hab h
theorem par_two (u : Bool) (a b : Int) (hab : a < b) (l : Lay) : subB ⟨u, a⟩ (subA ⟨u, b⟩ l) = subA ⟨u, b - a⟩ (subB ⟨u, a⟩ l) := by
  unfold subA subB wA hA wB hB
  refine lay_eq ?_ ?_ ?_
  · cases u <;> simp
  · cases u <;> simp
  · show partB ⟨u, a⟩ (partA ⟨u, b⟩ l.ps) = partA ⟨u, b - a⟩ (partB ⟨u, a⟩ l.ps)
    unfold partA partB
    rw [List.filter_map, List.filter_filter, List.filter_filter]
    congr 1
    refine List.filter_congr fun x _ => ?_
    rw [Function.comp_apply, before_moved, Bool.and_comm]
theorem par_three (u : Bool) (a b : Int) (hab : a < b) (l : Lay) : subB ⟨u, b - a⟩ (subB ⟨u, a⟩ l) = subB ⟨u, b⟩ l := by
  unfold subB wB hB
  refine lay_eq ?_ ?_ ?_
  · cases u <;> simp <;> omega
  · cases u <;> simp <;> omega
  · show partB ⟨u, b - a⟩ (partB ⟨u, a⟩ l.ps) = partB ⟨u, b⟩ l.ps
    unfold partB
    rw [List.filter_map, List.map_map, List.filter_filter]
    rw [show (moved ⟨u, b - a⟩ ∘ moved ⟨u, a⟩) = moved ⟨u, b⟩ from funext fun p => moved_moved p]
    congr 1
    refine List.filter_congr fun x _ => ?_
    rw [Function.comp_apply, before_moved]
    cases h : before ⟨u, b⟩ x
    · cases h2 : before ⟨u, a⟩ x
      · rfl
      · rw [before_lt hab h2] at h; cases h
    · rfl
theorem cut_sub {w h w' h' : Int} {ps ps' : List Patch} {c : Cut} (hok : layoutOk w' h' ps' = true) (hin : 1 ≤ c.At ∧ c.At ≤ mostOfCut w' h' c - 1) (hx : ∀ p ∈ ps', crossed c p = false) : isCut w' h' ps' c = true := by
  refine (cut_end hok (within_iff.2 hin) (List.all_eq_true.2 fun p hp => ?_)).symm
  rw [hx p hp]; rfl
theorem par_cutA {l : Lay} {u : Bool} {a b : Int} (hab : a < b) (ha : isCut l.w l.h l.ps ⟨u, a⟩ = true) (hb : isCut l.w l.h l.ps ⟨u, b⟩ = true) : isCut (subA ⟨u, b⟩ l).w (subA ⟨u, b⟩ l).h (subA ⟨u, b⟩ l).ps ⟨u, a⟩ = true := by
  obtain ⟨_, h1, h2⟩ := cut_parts ha
  refine cut_sub (w := 0) (h := 0) (ps := []) (parts_ok hb).1 ?_ fun p hp => h2 p (List.mem_filter.1 hp).1
  unfold subA wA hA mostOfCut at *
  cases u <;> simp at * <;> omega
theorem par_cutB {l : Lay} {u : Bool} {a b : Int} (hab : a < b) (ha : isCut l.w l.h l.ps ⟨u, a⟩ = true) (hb : isCut l.w l.h l.ps ⟨u, b⟩ = true) : isCut (subB ⟨u, a⟩ l).w (subB ⟨u, a⟩ l).h (subB ⟨u, a⟩ l).ps ⟨u, b - a⟩ = true := by
  obtain ⟨_, h1, h2⟩ := cut_parts hb
  refine cut_sub (w := 0) (h := 0) (ps := []) (parts_ok ha).2.1 ?_ fun p hp => ?_
  · unfold subB wB hB mostOfCut at *
    cases u <;> simp at * <;> omega
  · obtain ⟨q, hq, rfl⟩ := List.mem_map.1 hp
    rw [crossed_moved]
    exact h2 q (List.mem_filter.1 hq).1
theorem before_perp {u : Bool} {a b : Int} (p : Patch) : before ⟨!u, b⟩ (moved ⟨u, a⟩ p) = before ⟨!u, b⟩ p := by
  unfold before moved
  cases u <;> simp
theorem crossed_perp {u : Bool} {a b : Int} (p : Patch) : crossed ⟨!u, b⟩ (moved ⟨u, a⟩ p) = crossed ⟨!u, b⟩ p := by
  unfold crossed before behind moved
  cases u <;> simp
theorem moved_perp {u : Bool} {a b : Int} (p : Patch) : moved ⟨!u, b⟩ (moved ⟨u, a⟩ p) = moved ⟨u, a⟩ (moved ⟨!u, b⟩ p) := by
  unfold moved
  cases u <;> simp
theorem perp_AA (u : Bool) (a b : Int) (l : Lay) : subA ⟨!u, b⟩ (subA ⟨u, a⟩ l) = subA ⟨u, a⟩ (subA ⟨!u, b⟩ l) := by
  unfold subA wA hA
  refine lay_eq ?_ ?_ ?_
  · cases u <;> simp
  · cases u <;> simp
  · show partA ⟨!u, b⟩ (partA ⟨u, a⟩ l.ps) = partA ⟨u, a⟩ (partA ⟨!u, b⟩ l.ps)
    unfold partA
    rw [List.filter_filter, List.filter_filter]
    exact List.filter_congr fun x _ => Bool.and_comm _ _
theorem perp_BA (u : Bool) (a b : Int) (l : Lay) : subB ⟨!u, b⟩ (subA ⟨u, a⟩ l) = subA ⟨u, a⟩ (subB ⟨!u, b⟩ l) := by
  unfold subA subB wA hA wB hB
  refine lay_eq ?_ ?_ ?_
  · cases u <;> simp
  · cases u <;> simp
  · show partB ⟨!u, b⟩ (partA ⟨u, a⟩ l.ps) = partA ⟨u, a⟩ (partB ⟨!u, b⟩ l.ps)
    unfold partA partB
    rw [List.filter_map, List.filter_filter, List.filter_filter]
    congr 1
    refine List.filter_congr fun x _ => ?_
    have := before_perp (u := !u) (a := b) (b := a) x
    rw [Bool.not_not] at this
    rw [Function.comp_apply, this, Bool.and_comm]
theorem perp_BB (u : Bool) (a b : Int) (l : Lay) : subB ⟨!u, b⟩ (subB ⟨u, a⟩ l) = subB ⟨u, a⟩ (subB ⟨!u, b⟩ l) := by
  unfold subB wB hB
  refine lay_eq ?_ ?_ ?_
  · cases u <;> simp
  · cases u <;> simp
  · show partB ⟨!u, b⟩ (partB ⟨u, a⟩ l.ps) = partB ⟨u, a⟩ (partB ⟨!u, b⟩ l.ps)
    unfold partB
    rw [List.filter_map, List.filter_map, List.map_map, List.map_map, List.filter_filter, List.filter_filter]
    rw [show (moved ⟨!u, b⟩ ∘ moved ⟨u, a⟩) = (moved ⟨u, a⟩ ∘ moved ⟨!u, b⟩) from funext fun p => moved_perp p]
    congr 1
    refine List.filter_congr fun x _ => ?_
    have := before_perp (u := !u) (a := b) (b := a) x
    rw [Bool.not_not] at this
    rw [Function.comp_apply, Function.comp_apply, this, before_perp, Bool.and_comm]
theorem perp_cutA {l : Lay} {u : Bool} {a b : Int} (ha : isCut l.w l.h l.ps ⟨u, a⟩ = true) (hb : isCut l.w l.h l.ps ⟨!u, b⟩ = true) : isCut (subA ⟨u, a⟩ l).w (subA ⟨u, a⟩ l).h (subA ⟨u, a⟩ l).ps ⟨!u, b⟩ = true := by
  obtain ⟨_, h1, h2⟩ := cut_parts hb
  refine cut_sub (w := 0) (h := 0) (ps := []) (parts_ok ha).1 ?_ fun p hp => h2 p (List.mem_filter.1 hp).1
  unfold subA wA hA mostOfCut at *
  cases u <;> simp at * <;> omega
theorem perp_cutB {l : Lay} {u : Bool} {a b : Int} (ha : isCut l.w l.h l.ps ⟨u, a⟩ = true) (hb : isCut l.w l.h l.ps ⟨!u, b⟩ = true) : isCut (subB ⟨u, a⟩ l).w (subB ⟨u, a⟩ l).h (subB ⟨u, a⟩ l).ps ⟨!u, b⟩ = true := by
  obtain ⟨_, h1, h2⟩ := cut_parts hb
  refine cut_sub (w := 0) (h := 0) (ps := []) (parts_ok ha).2.1 ?_ fun p hp => ?_
  · unfold subB wB hB mostOfCut at *
    cases u <;> simp at * <;> omega
  · obtain ⟨q, hq, rfl⟩ := List.mem_map.1 hp
    rw [crossed_perp]
    exact h2 q (List.mem_filter.1 hq).1

/-- whichever cut is taken -/
theorem sew_any : ∀ (f : Nat) (l : Lay), l.ps.length ≤ f → ∀ c : Cut, isCut l.w l.h l.ps c = true → (canSew (subA c l) && canSew (subB c l)) = canSew l := by
  intro f
  induction f with
  | zero =>
    intro l hf c hc
    have := (layout_parts (cut_parts hc).1).2.2.1
    omega
  | succ f ih =>
    intro l hf c hc
    have hok : okLay l = true := (cut_parts hc).1
    obtain ⟨_, _, n1, n2⟩ := parts_ok hc
    have hl := len_split c l.ps
    have par : ∀ (u : Bool) (a b : Int), a < b → isCut l.w l.h l.ps ⟨u, a⟩ = true → isCut l.w l.h l.ps ⟨u, b⟩ = true → (canSew (subA ⟨u, a⟩ l) && canSew (subB ⟨u, a⟩ l)) = (canSew (subA ⟨u, b⟩ l) && canSew (subB ⟨u, b⟩ l)) := by
      intro u a b hab ha hb
      have e1 := ih (subA ⟨u, b⟩ l) (by have := (cut_smaller hb).1; omega) ⟨u, a⟩ (par_cutA hab ha hb)
      have e2 := ih (subB ⟨u, a⟩ l) (by have := (cut_smaller ha).2; omega) ⟨u, b - a⟩ (par_cutB hab ha hb)
      rw [par_one u a b hab, par_two u a b hab] at e1
      rw [par_three u a b hab] at e2
      rw [← e1, ← e2, Bool.and_assoc]
    have perp : ∀ (u : Bool) (a b : Int), isCut l.w l.h l.ps ⟨u, a⟩ = true → isCut l.w l.h l.ps ⟨!u, b⟩ = true → (canSew (subA ⟨u, a⟩ l) && canSew (subB ⟨u, a⟩ l)) = (canSew (subA ⟨!u, b⟩ l) && canSew (subB ⟨!u, b⟩ l)) := by
      intro u a b ha hb
      have ha' : isCut l.w l.h l.ps ⟨!!u, a⟩ = true := by rw [Bool.not_not]; exact ha
      have e1 := ih (subA ⟨u, a⟩ l) (by have := (cut_smaller ha).1; omega) ⟨!u, b⟩ (perp_cutA ha hb)
      have e2 := ih (subB ⟨u, a⟩ l) (by have := (cut_smaller ha).2; omega) ⟨!u, b⟩ (perp_cutB ha hb)
      have e3 := ih (subA ⟨!u, b⟩ l) (by have := (cut_smaller hb).1; omega) ⟨u, a⟩ (by have := perp_cutA hb ha'; rw [Bool.not_not] at this; exact this)
      have e4 := ih (subB ⟨!u, b⟩ l) (by have := (cut_smaller hb).2; omega) ⟨u, a⟩ (by have := perp_cutB hb ha'; rw [Bool.not_not] at this; exact this)
      have k1 := perp_BA (!u) b a l
      rw [Bool.not_not] at k1
      rw [perp_AA, perp_BA] at e1
      rw [← k1, perp_BB] at e2
      rw [← e1, ← e2, ← e3, ← e4]
      generalize canSew (subA ⟨u, a⟩ (subA ⟨!u, b⟩ l)) = b1
      generalize canSew (subA ⟨u, a⟩ (subB ⟨!u, b⟩ l)) = b2
      generalize canSew (subB ⟨u, a⟩ (subA ⟨!u, b⟩ l)) = b3
      generalize canSew (subB ⟨u, a⟩ (subB ⟨!u, b⟩ l)) = b4
      cases b1 <;> cases b2 <;> cases b3 <;> cases b4 <;> rfl
    cases hcs : cutsOf l.w l.h l.ps with
    | nil => have := mem_cuts.2 hc; rw [hcs] at this; cases this
    | cons c0 cs =>
      have hc0 : isCut l.w l.h l.ps c0 = true := mem_cuts.1 (by rw [hcs]; simp)
      have h1 : l.ps.length ≠ 1 := by omega
      rw [← sew_cut hok h1 hcs]
      obtain ⟨u, a⟩ := c
      obtain ⟨v, b⟩ := c0
      by_cases huv : v = u
      · subst huv
        rcases Int.lt_trichotomy a b with h | h | h
        · exact par v a b h hc hc0
        · subst h; rfl
        · exact (par v b a h hc0 hc).symm
      · have : v = !u := by cases u <;> cases v <;> simp_all
        subst this
        exact perp u a b hc hc0

/-! ### a part that cannot be cut -/
theorem cell_at {w h : Int} {ps : List Patch} (k : layoutOk w h ps = true) {x y : Int} (hx : 0 ≤ x ∧ x < w) (hy : 0 ≤ y ∧ y < h) : ∃ (i : Nat) (p : Patch), ps[i]? = some p ∧ has p x y = true := by
  have h1 := layout_once k x.toNat y.toNat (by omega) (by omega)
  rw [Int.toNat_of_nonneg hx.1, Int.toNat_of_nonneg hy.1] at h1
  unfold covers at h1
  obtain ⟨p, hp, hh⟩ := List.countP_pos_iff.1 (show 0 < ps.countP fun p => has p x y by omega)
  obtain ⟨i, hi⟩ := List.getElem?_of_mem hp
  exact ⟨i, p, hi, hh⟩
theorem cell_one {w h : Int} {ps : List Patch} (k : layoutOk w h ps = true) {x y : Int} {i j : Nat} {p q : Patch} (hp : ps[i]? = some p) (hq : ps[j]? = some q) (h1 : has p x y = true) (h2 : has q x y = true) : i = j := by
  obtain ⟨_, _, _, _, ha, _⟩ := layout_parts k
  have hc := covers_le ha x y
  rcases Nat.lt_trichotomy i j with hij | hij | hij
  · have := covers_two hq hp hij h2 h1; omega
  · exact hij
  · have := covers_two hp hq hij h1 h2; omega
theorem far_apart {w h : Int} {ps : List Patch} (k : layoutOk w h ps = true) {i j : Nat} {p q : Patch} (hp : ps[i]? = some p) (hq : ps[j]? = some q) (hne : i ≠ j) : ¬ (p.X < q.X + q.W ∧ q.X < p.X + p.W ∧ p.Y < q.Y + q.H ∧ q.Y < p.Y + p.H) := by
  obtain ⟨_, _, _, _, ha, _⟩ := layout_parts k
  intro h1
  rcases Nat.lt_or_gt_of_ne hne with hij | hij
  · have := ha j i q p hq hp hij
    rw [overlap_iff.2 (by omega)] at this; cases this
  · have := ha i j p q hp hq hij
    rw [overlap_iff.2 h1] at this; cases this
theorem cut_by {w h : Int} {ps : List Patch} (k : layoutOk w h ps = true) (c : Cut) (h1 : 1 ≤ c.At ∧ c.At ≤ mostOfCut w h c - 1) (h2 : ∀ p ∈ ps, crossed c p = false) : cutsOf w h ps ≠ [] := by
  intro he
  have := mem_cuts.2 (cut_sub (w := 0) (h := 0) (ps := []) k h1 h2)
  rw [he] at this
  cases this
theorem cross_x {a : Int} {p : Patch} (h : a ≤ p.X ∨ p.X + p.W ≤ a) : crossed ⟨true, a⟩ p = false := by
  unfold crossed before behind
  simp; omega
theorem cross_y {a : Int} {p : Patch} (h : a ≤ p.Y ∨ p.Y + p.H ≤ a) : crossed ⟨false, a⟩ p = false := by
  unfold crossed before behind
  simp; omega
theorem four_all : ∀ a b c d e : Fin 4, a ≠ b → a ≠ c → a ≠ d → b ≠ c → b ≠ d → c ≠ d → e = a ∨ e = b ∨ e = c ∨ e = d := by decide
theorem knot_five {w h : Int} {ps : List Patch} (k : layoutOk w h ps = true) (h1 : ps.length ≠ 1) (hc : cutsOf w h ps = []) : 5 ≤ ps.length := by
  obtain ⟨hw, hh, hn, hin, _, _⟩ := layout_parts k
  refine Classical.byContradiction fun hlt => ?_
  have bd : ∀ {i : Nat} {p : Patch}, ps[i]? = some p → _ := fun {i p} hp => patchIn_bd (List.all_eq_true.1 hin p (List.mem_of_getElem? hp))
  -- one patch spans all: it is the only one
  have whole : ∀ {i : Nat} {p : Patch}, ps[i]? = some p → ¬ (p.X = 0 ∧ p.Y = 0 ∧ p.W = w ∧ p.H = h) := by
    intro i p hp hs
    obtain ⟨j, hj, hji⟩ : ∃ j, j < ps.length ∧ j ≠ i := by
      by_cases h0 : i = 0
      · exact ⟨1, by omega, by omega⟩
      · exact ⟨0, by omega, by omega⟩
    have hq : ps[j]? = some ps[j] := List.getElem?_eq_getElem hj
    have := bd hq
    exact far_apart k hp hq (Ne.symm hji) (by omega)
  -- a patch over the whole of a side is cut off
  have top : ∀ {i : Nat} {p : Patch}, ps[i]? = some p → ¬ (p.X = 0 ∧ p.W = w ∧ (p.Y = 0 ∨ p.Y + p.H = h)) := by
    intro i p hp hs
    have hb := bd hp
    have hwh := whole hp
    rcases hs with ⟨e1, e2, e3 | e3⟩
    · refine cut_by k ⟨false, p.H⟩ (by show 1 ≤ p.H ∧ p.H ≤ h - 1; omega) ?_ hc
      intro q hq
      obtain ⟨j, hj⟩ := List.getElem?_of_mem hq
      by_cases hij : i = j
      · subst hij
        rw [hp] at hj; injection hj with hj; subst hj
        exact cross_y (by omega)
      · have := far_apart k hp hj hij
        have := bd hj
        exact cross_y (by omega)
    · refine cut_by k ⟨false, p.Y⟩ (by show 1 ≤ p.Y ∧ p.Y ≤ h - 1; omega) ?_ hc
      intro q hq
      obtain ⟨j, hj⟩ := List.getElem?_of_mem hq
      by_cases hij : i = j
      · subst hij
        rw [hp] at hj; injection hj with hj; subst hj
        exact cross_y (by omega)
      · have := far_apart k hp hj hij
        have := bd hj
        exact cross_y (by omega)
  have side : ∀ {i : Nat} {p : Patch}, ps[i]? = some p → ¬ (p.Y = 0 ∧ p.H = h ∧ (p.X = 0 ∨ p.X + p.W = w)) := by
    intro i p hp hs
    have hb := bd hp
    have hwh := whole hp
    rcases hs with ⟨e1, e2, e3 | e3⟩
    · refine cut_by k ⟨true, p.W⟩ (by show 1 ≤ p.W ∧ p.W ≤ w - 1; omega) ?_ hc
      intro q hq
      obtain ⟨j, hj⟩ := List.getElem?_of_mem hq
      by_cases hij : i = j
      · subst hij
        rw [hp] at hj; injection hj with hj; subst hj
        exact cross_x (by omega)
      · have := far_apart k hp hj hij
        have := bd hj
        exact cross_x (by omega)
    · refine cut_by k ⟨true, p.X⟩ (by show 1 ≤ p.X ∧ p.X ≤ w - 1; omega) ?_ hc
      intro q hq
      obtain ⟨j, hj⟩ := List.getElem?_of_mem hq
      by_cases hij : i = j
      · subst hij
        rw [hp] at hj; injection hj with hj; subst hj
        exact cross_x (by omega)
      · have := far_apart k hp hj hij
        have := bd hj
        exact cross_x (by omega)
  obtain ⟨i1, p1, g1, c1⟩ := cell_at k (x := 0) (y := 0) (by omega) (by omega)
  obtain ⟨i2, p2, g2, c2⟩ := cell_at k (x := w - 1) (y := 0) (by omega) (by omega)
  obtain ⟨i3, p3, g3, c3⟩ := cell_at k (x := 0) (y := h - 1) (by omega) (by omega)
  obtain ⟨i4, p4, g4, c4⟩ := cell_at k (x := w - 1) (y := h - 1) (by omega) (by omega)
  have b1 := bd g1; have b2 := bd g2; have b3 := bd g3; have b4 := bd g4
  rw [has_iff] at c1 c2 c3 c4
  have t1 := top g1; have t2 := top g2; have t3 := top g3; have t4 := top g4
  have s1 := side g1; have s2 := side g2; have s3 := side g3; have s4 := side g4
  have same : ∀ {i j : Nat} {p q : Patch}, ps[i]? = some p → ps[j]? = some q → i = j → p = q := fun {i j p q} hp hq e => by subst e; rw [hp] at hq; injection hq
  have n12 : i1 ≠ i2 := fun e => by have := same g1 g2 e; subst this; omega
  have n13 : i1 ≠ i3 := fun e => by have := same g1 g3 e; subst this; omega
  have n14 : i1 ≠ i4 := fun e => by have := same g1 g4 e; subst this; omega
  have n23 : i2 ≠ i3 := fun e => by have := same g2 g3 e; subst this; omega
  have n24 : i2 ≠ i4 := fun e => by have := same g2 g4 e; subst this; omega
  have n34 : i3 ≠ i4 := fun e => by have := same g3 g4 e; subst this; omega
  have lt : ∀ {i : Nat} {p : Patch}, ps[i]? = some p → i < 4 := fun {i p} hp => by have := (List.getElem?_eq_some_iff.1 hp).1; omega
  have all4 : ∀ {i : Nat} {p : Patch}, ps[i]? = some p → (i = i1 ∧ p = p1) ∨ (i = i2 ∧ p = p2) ∨ (i = i3 ∧ p = p3) ∨ (i = i4 ∧ p = p4) := by
    intro i p hp
    have := four_all ⟨i1, lt g1⟩ ⟨i2, lt g2⟩ ⟨i3, lt g3⟩ ⟨i4, lt g4⟩ ⟨i, lt hp⟩ (by simpa using n12) (by simpa using n13) (by simpa using n14) (by simpa using n23) (by simpa using n24) (by simpa using n34)
    simp only [Fin.mk.injEq] at this
    rcases this with e | e | e | e
    · exact .inl ⟨e, same hp g1 e⟩
    · exact .inr (.inl ⟨e, same hp g2 e⟩)
    · exact .inr (.inr (.inl ⟨e, same hp g3 e⟩))
    · exact .inr (.inr (.inr ⟨e, same hp g4 e⟩))
  have a12 := far_apart k g1 g2 n12; have a13 := far_apart k g1 g3 n13; have a14 := far_apart k g1 g4 n14
  have a23 := far_apart k g2 g3 n23; have a24 := far_apart k g2 g4 n24; have a34 := far_apart k g3 g4 n34
  have cov : ∀ x y : Int, 0 ≤ x → x < w → 0 ≤ y → y < h → ((p1.X ≤ x ∧ x < p1.X + p1.W) ∧ p1.Y ≤ y ∧ y < p1.Y + p1.H) ∨ ((p2.X ≤ x ∧ x < p2.X + p2.W) ∧ p2.Y ≤ y ∧ y < p2.Y + p2.H) ∨ ((p3.X ≤ x ∧ x < p3.X + p3.W) ∧ p3.Y ≤ y ∧ y < p3.Y + p3.H) ∨ ((p4.X ≤ x ∧ x < p4.X + p4.W) ∧ p4.Y ≤ y ∧ y < p4.Y + p4.H) := by
    intro x y x0 x1 y0 y1
    obtain ⟨i, p, hp, hh⟩ := cell_at k (x := x) (y := y) ⟨x0, x1⟩ ⟨y0, y1⟩
    rw [has_iff] at hh
    rcases all4 hp with ⟨_, rfl⟩ | ⟨_, rfl⟩ | ⟨_, rfl⟩ | ⟨_, rfl⟩
    · exact .inl hh
    · exact .inr (.inl hh)
    · exact .inr (.inr (.inl hh))
    · exact .inr (.inr (.inr hh))
  have e2 : p2.X = p1.W := by have := cov p1.W 0 (by omega) (by omega) (by omega) (by omega); omega
  have e4 : p4.X = p3.W := by have := cov p3.W (h - 1) (by omega) (by omega) (by omega) (by omega); omega
  have e3 : p3.Y = p1.H := by have := cov 0 p1.H (by omega) (by omega) (by omega) (by omega); omega
  have e5 : p4.Y = p2.H := by have := cov (w - 1) p2.H (by omega) (by omega) (by omega) (by omega); omega
  have f1 : p1.W ≠ p3.W := by
    intro e
    refine cut_by k ⟨true, p1.W⟩ (by show 1 ≤ p1.W ∧ p1.W ≤ w - 1; omega) ?_ hc
    intro q hq
    obtain ⟨j, hj⟩ := List.getElem?_of_mem hq
    rcases all4 hj with ⟨_, rfl⟩ | ⟨_, rfl⟩ | ⟨_, rfl⟩ | ⟨_, rfl⟩ <;> exact cross_x (by omega)
  have f2 : p1.H ≠ p2.H := by
    intro e
    refine cut_by k ⟨false, p1.H⟩ (by show 1 ≤ p1.H ∧ p1.H ≤ h - 1; omega) ?_ hc
    intro q hq
    obtain ⟨j, hj⟩ := List.getElem?_of_mem hq
    rcases all4 hj with ⟨_, rfl⟩ | ⟨_, rfl⟩ | ⟨_, rfl⟩ | ⟨_, rfl⟩ <;> exact cross_y (by omega)
  clear t1 t2 t3 t4 s1 s2 s3 s4 all4 lt same whole top side bd
  rcases Int.lt_or_gt_of_ne f1 with hlt1 | hgt1
  · have := cov p1.W p2.H (by omega) (by omega) (by omega) (by omega)
    omega
  · have := cov p3.W p1.H (by omega) (by omega) (by omega) (by omega)
    omega
theorem knotN_is : ∀ (f : Nat) (l k : Lay), knotN f l = some k → layoutOk k.w k.h k.ps = true ∧ k.ps.length ≠ 1 ∧ cutsOf k.w k.h k.ps = [] := by
  intro f
  induction f with
  | zero => intro l k h; unfold knotN at h; cases h
  | succ f ih =>
    intro l k h
    unfold knotN at h
    split at h
    · rename_i hok
      rw [Bool.and_eq_true, decide_eq_true_iff] at hok
      split at h
      · rename_i hcs
        injection h with h
        subst h
        exact ⟨hok.1, hok.2, hcs⟩
      · split at h
        · rename_i k' hk'
          injection h with h
          subst h
          exact ih _ _ hk'
        · exact ih _ _ h
    · cases h
theorem knot_is {l k : Lay} (h : firstKnot l = some k) : layoutOk k.w k.h k.ps = true ∧ cutsOf k.w k.h k.ps = [] ∧ 5 ≤ k.ps.length := by
  obtain ⟨h1, h2, h3⟩ := knotN_is _ _ _ h
  exact ⟨h1, h3, knot_five h1 h2 h3⟩

end Go.Proofs.Ytmjdgplkcocgmaa
