/-
  The joins of a layout: they are joins, their whole, their depth, their seams; plain.
-/
import Derived.Test.YtmjdgplkcocgmaaJoiM
import Derived.Test.YtmjdgplkcocgmaaJoiP
import Derived.Test.YtmjdgplkcocgmaaZPlain
set_option linter.unusedVariables false
namespace Go.Proofs.Ytmjdgplkcocgmaa

/-! ### the depth -/
theorem joins_depth : ∀ (f : Nat) (l : Lay) (nums : List Int) (d : List Int), okLay l = true → canSew l = true → l.ps.length ≤ f → nums.length = l.ps.length → (∀ m ∈ nums, 0 ≤ m ∧ m < d.length ∧ d.getD m.toNat 0 = 0) →
    ∃ t, runL depStep d (joinsN f l nums d.length).1 = some t ∧ (joinsN f l nums d.length).1.length + 1 = l.ps.length ∧ t.length = d.length + (joinsN f l nums d.length).1.length ∧ (∀ i, i < d.length → t.getD i 0 = d.getD i 0) ∧
      (0 ≤ (joinsN f l nums d.length).2 ∧ (joinsN f l nums d.length).2 < t.length) ∧ ∃ D : Nat, t.getD (joinsN f l nums d.length).2.toNat 0 = D ∧ l.ps.length ≤ 2 ^ D ∧ ∀ i, d.length ≤ i → i < t.length → t.getD i 0 ≤ (D : Int) := by
  intro f
  induction f with
  | zero => intro l nums d hok _ hf; have := (layout_parts hok).2.2.1; omega
  | succ f ih =>
    intro l nums d hok hcan hf hnl hz
    by_cases h1 : l.ps.length = 1
    · rw [h1] at hnl
      obtain ⟨m, hm⟩ := List.length_eq_one_iff.1 hnl
      obtain ⟨a1, a2, a3⟩ := hz m (by rw [hm]; simp)
      unfold joinsN
      rw [if_pos h1]
      have hu : nums.getD 0 0 = m := by rw [hm]; rfl
      refine ⟨d, rfl, by simp [h1], by simp, fun _ _ => rfl, ?_, 0, ?_, ?_, ?_⟩
      · show 0 ≤ nums.getD 0 0 ∧ nums.getD 0 0 < _; rw [hu]; exact ⟨a1, a2⟩
      · show d.getD (nums.getD 0 0).toNat 0 = _; rw [hu]; exact a3
      · rw [h1]; decide
      · intro i hi hi2; omega
    · cases hcs : cutsOf l.w l.h l.ps with
      | nil => have := sew_knot hok h1 hcs; rw [hcan] at this; cases this
      | cons c cs =>
        have hk : isCut l.w l.h l.ps c = true := mem_cuts.1 (by rw [hcs]; simp)
        have hs := cut_smaller hk
        obtain ⟨oA, oB, nA, nB⟩ := parts_ok hk
        have hsew := sew_cut hok h1 hcs
        rw [hcan, Bool.and_eq_true] at hsew
        have hspl := len_split c l.ps
        have hnA := numsA_all c l.ps nums
        obtain ⟨t1, r1, c1, l1, p1, u1, D1, e1, b1, g1⟩ := ih (subA c l) (numsOf c l.ps true nums l.ps.length) d oA hsew.1 (by omega) hnA.1 (fun m hm => hz m (nums_sub hnl hm))
        unfold joinsN
        rw [if_neg h1, hcs]
        simp only
        generalize joinsN f (subA c l) (numsOf c l.ps true nums l.ps.length) d.length = X at r1 c1 l1 u1 e1 ⊢
        have ex : ((d.length : Nat) : Int) + (X.1.length : Int) = (t1.length : Int) := by omega
        rw [ex]
        obtain ⟨t2, r2, c2, l2, p2, u2, D2, e2, b2, g2⟩ := ih (subB c l) (numsOf c l.ps false nums l.ps.length) t1 oB hsew.2 (by omega) hnA.2 (fun m hm => by
          obtain ⟨a1, a2, a3⟩ := hz m (nums_sub hnl hm)
          exact ⟨a1, by omega, by rw [p1 _ (by omega)]; exact a3⟩)
        generalize joinsN f (subB c l) (numsOf c l.ps false nums l.ps.length) t1.length = Y at r2 c2 l2 u2 e2 ⊢
        have c1' : X.1.length + 1 = (partA c l.ps).length := c1
        have c2' : Y.1.length + 1 = (partB c l.ps).length := c2
        have b1' : (partA c l.ps).length ≤ 2 ^ D1 := b1
        have b2' : (partB c l.ps).length ≤ 2 ^ D2 := b2
        have hstep : depStep t2 ⟨c.Upright, X.2, Y.2⟩ = some (t2 ++ [1 + max (t2.getD X.2.toNat 0) (t2.getD Y.2.toNat 0)]) := depStep_yes (within_iff.2 (by show 0 ≤ X.2 ∧ X.2 ≤ _; omega)) (within_iff.2 (by show 0 ≤ Y.2 ∧ Y.2 ≤ _; omega))
        have eX : t2.getD X.2.toNat 0 = (D1 : Int) := by rw [p2 _ (by omega)]; exact e1
        rw [eX, e2] at hstep
        have hlen : (X.1 ++ Y.1 ++ [(⟨c.Upright, X.2, Y.2⟩ : Join)]).length = X.1.length + Y.1.length + 1 := by simp; omega
        refine ⟨t2 ++ [1 + max (D1 : Int) (D2 : Int)], ?_, ?_, ?_, ?_, ?_, 1 + max D1 D2, ?_, ?_, ?_⟩
        · rw [runL_append, runL_append, r1]
          show ((runL depStep t1 Y.1).bind _) = _
          rw [r2]
          show runL depStep t2 [_] = _
          unfold runL
          rw [hstep]
          rfl
        · rw [hlen]; omega
        · rw [hlen, List.length_append, List.length_singleton]; omega
        · intro i hi
          rw [getD_push, if_pos (by omega), p2 i (by omega), p1 i hi]
        · rw [List.length_append, List.length_singleton]
          exact ⟨by omega, by omega⟩
        · rw [getD_push, if_neg (by omega), if_pos (by omega)]
          omega
        · have q1 : 2 ^ D1 ≤ 2 ^ max D1 D2 := Nat.pow_le_pow_right (by decide) (by omega)
          have q2 : 2 ^ D2 ≤ 2 ^ max D1 D2 := Nat.pow_le_pow_right (by decide) (by omega)
          rw [Nat.add_comm 1, Nat.pow_succ]
          omega
        · intro i hi hi2
          rw [List.length_append, List.length_singleton] at hi2
          rw [getD_push]
          split
          · rename_i h
            rcases Nat.lt_or_ge i t1.length with h2 | h2
            · rw [p2 i h2]
              have := g1 i hi h2
              omega
            · have := g2 i h2 h
              omega
          · rw [if_pos (by omega)]
            omega

/-! ### at the whole layout -/
theorem mem_zip_iota {ps : List Patch} {p : Patch} {m : Int} (h : (p, m) ∈ ps.zip (iota ps.length)) : ∃ i : Nat, ps[i]? = some p ∧ m = i := by
  obtain ⟨i, hi, e⟩ := List.getElem_of_mem h
  have h1 : (ps.zip (iota ps.length))[i]? = some (p, m) := by rw [List.getElem?_eq_getElem hi, e]
  rw [List.getElem?_zip_eq_some] at h1
  refine ⟨i, h1.1, ?_⟩
  have hl : i < ps.length := (List.getElem?_eq_some_iff.1 h1.1).1
  have := h1.2
  rw [iota_at hl] at this
  injection this with this
  exact this.symm
theorem iota_nodup (n : Nat) : (iota n).Nodup := by
  unfold iota
  exact List.Pairwise.map _ (fun a b h e => h (by omega)) List.nodup_range
theorem rep_false (n i : Nat) : (List.replicate n false).getD i false = false := by
  rw [List.getD_eq_getElem?_getD, List.getElem?_replicate]
  split <;> rfl
theorem start_lies {ps : List Patch} (m : Nat) : Lies (sewStart ps m) 0 0 ps (iota ps.length) := by
  refine ⟨iota_len _, iota_nodup _, fun p q hq => ?_⟩
  obtain ⟨i, hi, rfl⟩ := mem_zip_iota hq
  have hl : i < ps.length := (List.getElem?_eq_some_iff.1 hi).1
  refine ⟨by omega, by show (i : Int) < ps.length; omega, rep_false _ _, ?_⟩
  have : pAt ps (i : Int) = p := by
    unfold pAt
    rw [Int.toNat_natCast, List.getD_eq_getElem?_getD, hi]; rfl
  show Sits (pAt ps i) _ _ _ _
  rw [this]
  unfold Sits
  omega
theorem joinsOf_made {l : Lay} (k : okLay l = true) (hs : canSew l = true) : ∃ t u, MadeS (sewStart l.ps (l.ps.length - 1)) t l (iota l.ps.length) 0 0 (joinsOf l) u := by
  have hn := (layout_parts k).2.2.1
  have h := joins_sewn l.ps.length l (iota l.ps.length) (sewStart l.ps (l.ps.length - 1)) 0 0 k hs (Nat.le_refl _) (fun i _ => rep_false _ _) (by show l.ps.length + l.ps.length ≤ (List.replicate _ false).length + 1; rw [List.length_replicate]; omega) (start_lies _)
  obtain ⟨t, ht⟩ := h
  refine ⟨t, (joinsL l (iota l.ps.length) l.ps.length).2, ?_⟩
  unfold joinsOf joinsL
  rw [if_pos hs]
  exact ht
theorem joinsOf_cnt {l : Lay} (k : okLay l = true) (hs : canSew l = true) : (joinsOf l).length + 1 = l.ps.length := by
  obtain ⟨t, u, m⟩ := joinsOf_made k hs
  exact m.cnt
theorem joinsOf_sewn {l : Lay} (k : okLay l = true) (hs : canSew l = true) : ∃ u, MadeS (sewStart l.ps (l.ps.length - 1)) (sewn l.ps (joinsOf l)) l (iota l.ps.length) 0 0 (joinsOf l) u := by
  obtain ⟨t, u, m⟩ := joinsOf_made k hs
  have e : sewn l.ps (joinsOf l) = t := by
    unfold sewn
    have hc := m.cnt
    rw [show (joinsOf l).length = l.ps.length - 1 by omega]
    exact goL_end m.run
  rw [e]
  exact ⟨u, m⟩
theorem joinsOf_ok {l : Lay} (k : okLay l = true) (hs : canSew l = true) : SewOk l.w l.h l.ps (joinsOf l).length (sewn l.ps (joinsOf l)) := by
  obtain ⟨u, m⟩ := joinsOf_sewn k hs
  refine sewnUp_ok (l := joinsOf l) (layout_parts k).2.2.2.1 _ (Nat.le_refl _) _ ?_
  unfold sewnUp
  have hc := m.cnt
  rw [List.take_length, show (joinsOf l).length = l.ps.length - 1 by omega]
  exact m.run
theorem joinsOf_are {l : Lay} (k : okLay l = true) (hs : canSew l = true) : areJoins l.w l.h l.ps (joinsOf l) = true := by
  have hc := joinsOf_cnt k hs
  have hn := (layout_parts k).2.2.1
  rw [← are_seams k (by omega), (joinsOf_ok k hs).seams, decide_eq_true rfl]
theorem joinsOf_last {l : Lay} (k : okLay l = true) (hs : canSew l = true) : unitOk l.w l.h l.ps (joinsOf l) ((l.ps.length : Int) + ((joinsOf l).length : Int) - 1) = true ∧ Sits (unitBox l.w l.h l.ps (joinsOf l) ((l.ps.length : Int) + ((joinsOf l).length : Int) - 1)) 0 0 l.w l.h := by
  obtain ⟨u, m⟩ := joinsOf_sewn k hs
  have hn := (layout_parts k).2.2.1
  have hlen : (sewn l.ps (joinsOf l)).out.length = l.ps.length + (joinsOf l).length := m.len
  have hu : u = (l.ps.length : Int) + ((joinsOf l).length : Int) - 1 := by
    by_cases e : joinsOf l = []
    · have hc := m.cnt
      have hin := m.uin
      rw [hlen] at hin
      have e0 : (joinsOf l).length = 0 := by rw [e]; rfl
      omega
    · have := m.last e
      rw [this]; rfl
  have hok : unitOk l.w l.h l.ps (joinsOf l) ((l.ps.length : Int) + ((joinsOf l).length : Int) - 1) = true := by
    unfold unitOk
    rw [show layoutOk l.w l.h l.ps = true from k, Bool.true_and, within_iff]
    omega
  refine ⟨hok, ?_⟩
  rw [unit_yes hok, ← hu]
  exact m.box
theorem joinsOf_beyond {l : Lay} (k : okLay l = true) (hs : canSew l = true) : unitOk l.w l.h l.ps (joinsOf l) ((l.ps.length : Int) + ((joinsOf l).length : Int)) = false := by
  obtain ⟨u, m⟩ := joinsOf_sewn k hs
  have hlen : (sewn l.ps (joinsOf l)).out.length = l.ps.length + (joinsOf l).length := m.len
  unfold unitOk
  rw [show layoutOk l.w l.h l.ps = true from k, Bool.true_and]
  rw [Bool.eq_false_iff]
  intro h
  rw [within_iff] at h
  omega

/-! ### what are joins is a tree -/
theorem are_tree {w h : Int} {ps : List Patch} {l : List Join} (k : areJoins w h ps l = true) : treeOk l ps.length = true := by
  obtain ⟨hl, hlen, hse⟩ := are_parts k
  have hn := (layout_parts hl).2.2.1
  obtain ⟨q, hq, hok, hup⟩ := sewn_ok (l := l) (layout_parts hl).2.2.2.1
  have hql : q = l.length := by rw [← hok.seams]; exact hse
  subst hql
  have main : ∀ k, k ≤ l.length → ∀ s, sewnUp ps l k = some s → s.used.length = ps.length + l.length ∧ (∃ d, depths ps.length (l.take k) = some d) ∧ ∃ u, uses ps.length (l.take k) = some u ∧ ∀ i, u.getD i false = s.used.getD i false := by
    intro k
    induction k with
    | zero =>
      intro _ s hs
      injection hs with hs
      subst hs
      refine ⟨List.length_replicate, ⟨_, rfl⟩, _, rfl, fun i => ?_⟩
      rw [rep_false]
      exact (rep_false _ _).symm
    | succ k ih =>
      intro hk s hs
      obtain ⟨j, hx⟩ : ∃ j, l[k]? = some j := ⟨_, List.getElem?_eq_getElem (by omega)⟩
      unfold sewnUp at hs
      rw [runL_take_succ hx] at hs
      cases ht : runL sewStep (sewStart ps l.length) (l.take k) with
      | none => rw [ht] at hs; cases hs
      | some t =>
        rw [ht] at hs
        obtain ⟨h1, h2, rfl⟩ := sew_inv (show sewStep t _ = some s from hs)
        obtain ⟨hul, ⟨d, hd⟩, u, hu, hue⟩ := ih (by omega) t ht
        obtain ⟨fa, fb, fne, ua, ub⟩ := free_parts h1
        have hto := (sewnUp_ok (layout_parts hl).2.2.2.1 k (by omega) t ht).len
        have hdl := (depths_bd hd).1
        rw [List.length_take, Nat.min_eq_left (by omega)] at hdl
        have hus := uses_len hu
        refine ⟨by simp [hul], ⟨_, runL_step hx hd (depStep_yes (within_iff.2 (by omega)) (within_iff.2 (by omega)))⟩, (u.set j.A.toNat true).set j.B.toNat true, ?_, fun i => ?_⟩
        · exact runL_step hx hu (useStep_yes (by rw [beq_eq_false_iff_ne]; exact fne) (by rw [hue]; exact ua) (by rw [hue]; exact ub))
        · show _ = ((t.used.set _ true).set _ true).getD i false
          rw [getD_set2 _ _ _ _ (by omega) (by omega), getD_set2 _ _ _ _ (by omega) (by omega), hue]
  obtain ⟨_, ⟨d, hd⟩, u, hu, _⟩ := main l.length (Nat.le_refl _) _ hup
  rw [List.take_length] at hd hu
  have hsz : sizeOk (ps.length : Int) l.length = true := by
    unfold sizeOk
    rw [Bool.and_eq_true, within_iff, decide_eq_true_iff]
    omega
  refine (tree_yes ?_ (Int.toNat_natCast _) hu).symm
  rw [← depth_end hsz (Int.toNat_natCast _) hd]
  exact ((depths_bd hd).2 _).1
theorem joinsOf_tree {l : Lay} (k : okLay l = true) (hs : canSew l = true) : treeOk (joinsOf l) l.ps.length = true := are_tree (joinsOf_are k hs)
/-- the last unit is the deepest; how deep -/
theorem joinsOf_depth {l : Lay} (k : okLay l = true) (hs : canSew l = true) : ∃ (d : List Int) (D : Nat), depths l.ps.length (joinsOf l) = some d ∧ depthOf (joinsOf l) l.ps.length = (D : Int) ∧ D ≤ l.ps.length - 1 ∧ l.ps.length ≤ 2 ^ D ∧ maxDep d l.ps.length (joinsOf l).length = D := by
  have hn := (layout_parts k).2.2.1
  have hc := joinsOf_cnt k hs
  obtain ⟨u, m⟩ := joinsOf_sewn k hs
  have hlen : (sewn l.ps (joinsOf l)).out.length = l.ps.length + (joinsOf l).length := m.len
  have hJ : joinsOf l = (joinsN l.ps.length l (iota l.ps.length) l.ps.length).1 := by unfold joinsOf joinsL; rw [if_pos hs]
  have h := joins_depth l.ps.length l (iota l.ps.length) (List.replicate l.ps.length 0) k hs (Nat.le_refl _) (iota_len _) (fun q hq => by
    have := mem_iota.1 hq
    refine ⟨by omega, by rw [List.length_replicate]; omega, getD_rep0 _ _⟩)
  rw [List.length_replicate, ← hJ] at h
  obtain ⟨t, r, _, hl, _, hu, D, e, b, g⟩ := h
  have hdt : depths l.ps.length (joinsOf l) = some t := r
  have hu2 : (joinsN l.ps.length l (iota l.ps.length) l.ps.length).2 = (l.ps.length : Int) + ((joinsOf l).length : Int) - 1 := by
    obtain ⟨t', m'⟩ := joins_sewn l.ps.length l (iota l.ps.length) (sewStart l.ps (l.ps.length - 1)) 0 0 k hs (Nat.le_refl _) (fun i _ => rep_false _ _) (by show l.ps.length + l.ps.length ≤ (List.replicate _ false).length + 1; rw [List.length_replicate]; omega) (start_lies _)
    have hlast := m'.last
    have hin := m'.uin
    have hl' := m'.len
    change _ ≠ [] → (joinsN l.ps.length l (iota l.ps.length) l.ps.length).2 = _ at hlast
    change 0 ≤ (joinsN l.ps.length l (iota l.ps.length) l.ps.length).2 ∧ (joinsN l.ps.length l (iota l.ps.length) l.ps.length).2 < _ at hin
    change _ = l.ps.length + (joinsN l.ps.length l (iota l.ps.length) l.ps.length).1.length at hl'
    rw [show (joinsN l.ps.length l (iota l.ps.length) (sewStart l.ps (l.ps.length - 1)).out.length).1 = joinsOf l from hJ.symm] at hlast
    rw [← hJ] at hl'
    by_cases e0 : joinsOf l = []
    · rw [e0] at hc hl' ⊢
      simp only [List.length_nil] at hc hl' ⊢
      omega
    · exact hlast e0
  rw [hu2] at e
  have hla : lastOf t = (D : Int) := by
    unfold lastOf
    rw [← e]
    congr 1
    omega
  have hsz : sizeOk (l.ps.length : Int) (joinsOf l).length = true := by
    unfold sizeOk
    rw [Bool.and_eq_true, within_iff, decide_eq_true_iff]
    omega
  have hD : D ≤ l.ps.length - 1 := by
    have := ((depths_bd hdt).2 (((l.ps.length : Int) + ((joinsOf l).length : Int) - 1).toNat)).2
    omega
  refine ⟨t, D, hdt, by rw [← depth_end hsz (Int.toNat_natCast _) hdt]; exact hla, hD, b, ?_⟩
  by_cases e0 : (joinsOf l).length = 0
  · rw [e0]
    have : l.ps.length = 1 := by omega
    have : D = 0 := by omega
    rw [this]; rfl
  · have h1 := maxDep_le (d := t) (n := l.ps.length) (joinsOf l).length ((joinsOf l).length - 1) (by omega)
    have hdp : dp t l.ps.length ((joinsOf l).length - 1) = (D : Int) := by
      unfold dp
      rw [← e]
      congr 1
      omega
    rw [hdp] at h1
    rcases Nat.lt_or_ge D (maxDep t l.ps.length (joinsOf l).length) with h2 | h2
    · obtain ⟨i, hi, hi2⟩ := maxDep_lt _ _ h2
      have := g (l.ps.length + i) (by omega) (by omega)
      unfold dp at hi2
      omega
    · omega

/-! ### the seams -/
theorem maxI_from : ∀ (l : List Int) (a M : Int), a ≤ M → (∀ x ∈ l, x ≤ M) → a ≤ l.foldl max a ∧ l.foldl max a ≤ M ∧ ∀ x ∈ l, x ≤ l.foldl max a := by
  intro l
  induction l with
  | nil => intro a M h _; exact ⟨Int.le_refl _, h, fun x hx => by cases hx⟩
  | cons y l ih =>
    intro a M h hm
    have hy := hm y (by simp)
    obtain ⟨h1, h2, h3⟩ := ih (max a y) M (by omega) (fun x hx => hm x (by simp [hx]))
    refine ⟨by rw [List.foldl_cons]; omega, by rw [List.foldl_cons]; exact h2, fun x hx => ?_⟩
    rw [List.foldl_cons]
    rcases List.mem_cons.1 hx with rfl | hx
    · omega
    · exact h3 x hx
theorem long_bd {w h : Int} {ps : List Patch} {l : List Join} (k : areJoins w h ps l = true) : 0 ≤ longestSeam w h ps l ∧ longestSeam w h ps l ≤ max w h ∧ (longestSeam w h ps l = 0 ↔ ps.length = 1) := by
  obtain ⟨hl, hlen, hse⟩ := are_parts k
  obtain ⟨hw, hh, hn, hall, _⟩ := layout_parts hl
  rw [long_yes k]
  obtain ⟨q, hq, hok, hup⟩ := sewn_ok (l := l) hall
  have hql : q = l.length := by rw [← hok.seams]; exact hse
  subst hql
  have hb : ∀ x ∈ (sewn ps l).seams, 1 ≤ x ∧ x ≤ max w h := by
    intro x hx
    obtain ⟨i, hi, rfl⟩ := List.getElem_of_mem hx
    obtain ⟨⟨a0, a1⟩, a2, _⟩ := seam_at l.length _ hup i (l[i]'(by omega)) (by omega) (List.getElem?_eq_getElem _)
    rw [List.getElem?_eq_getElem hi] at a2
    injection a2 with a2
    rw [a2]
    have hin := (pAt_in hok a0 (by omega)).2
    unfold inBox at hin
    unfold seamOf
    split <;> omega
  obtain ⟨h1, h2, h3⟩ := maxI_from (sewn ps l).seams 0 (max w h) (by omega) (fun x hx => (hb x hx).2)
  refine ⟨h1, h2, ⟨fun h0 => ?_, fun h0 => ?_⟩⟩
  · rcases Nat.eq_zero_or_pos l.length with e | e
    · omega
    · have hx := List.getElem_mem (l := (sewn ps l).seams) (n := 0) (by omega)
      have := h3 _ hx
      have := (hb _ hx).1
      unfold maxI at h0
      omega
  · have : (sewn ps l).seams = [] := List.eq_nil_of_length_eq_zero (by omega)
    unfold maxI
    rw [this]; rfl

/-! ### a join that is turned is none -/
theorem flip_fit {j : Join} {a b : Patch} (h : fitJoin j a b = true) (ha : 1 ≤ a.W ∧ 1 ≤ a.H) : fitJoin ⟨!j.Upright, j.A, j.B⟩ a b = false := by
  rw [Bool.eq_false_iff]
  intro h2
  unfold fitJoin at h h2
  cases hu : j.Upright
  · simp only [hu, Bool.not_false, Bool.false_eq_true, if_false, if_true, Bool.and_eq_true, decide_eq_true_iff] at h h2
    omega
  · simp only [hu, Bool.not_true, Bool.false_eq_true, if_false, if_true, Bool.and_eq_true, decide_eq_true_iff] at h h2
    omega
theorem flip_not {w h : Int} {ps : List Patch} {I : List Join} {j : Join} (k : areJoins w h ps (I ++ [j]) = true) : areJoins w h ps (I ++ [⟨!j.Upright, j.A, j.B⟩]) = false := by
  obtain ⟨hl, hlen, hse⟩ := are_parts k
  obtain ⟨hw, hh, hn, hall, _⟩ := layout_parts hl
  obtain ⟨q, hq, hok, hup⟩ := sewn_ok (l := I ++ [j]) hall
  have hql : q = (I ++ [j]).length := by rw [← hok.seams]; exact hse
  subst hql
  have e1 : (I ++ [j]).length = (I ++ [(⟨!j.Upright, j.A, j.B⟩ : Join)]).length := by simp
  have hx : (I ++ [j])[I.length]? = some j := by simp
  have hx' : (I ++ [(⟨!j.Upright, j.A, j.B⟩ : Join)])[I.length]? = some ⟨!j.Upright, j.A, j.B⟩ := by simp
  unfold sewnUp at hup
  rw [show (I ++ [j]).length = I.length + 1 by simp, runL_take_succ hx] at hup
  cases ht : runL sewStep (sewStart ps (I.length + 1)) ((I ++ [j]).take I.length) with
  | none => rw [ht] at hup; cases hup
  | some t =>
    rw [ht] at hup
    obtain ⟨h1, h2, _⟩ := sew_inv (show sewStep t j = some _ from hup)
    have hto := sewnUp_ok (l := I ++ [j]) hall I.length (by simp) t (by unfold sewnUp; rw [show (I ++ [j]).length = I.length + 1 by simp]; exact ht)
    obtain ⟨fa, _⟩ := free_parts h1
    have hin := (pAt_in hto fa.1 fa.2).2
    unfold inBox at hin
    have hno : sewStep t ⟨!j.Upright, j.A, j.B⟩ = none := sew_no2 (flip_fit h2 ⟨hin.2.2.1, hin.2.2.2.1⟩)
    have hrun : runL sewStep (sewStart ps (I ++ [(⟨!j.Upright, j.A, j.B⟩ : Join)]).length) ((I ++ [(⟨!j.Upright, j.A, j.B⟩ : Join)]).take I.length) = some t := by
      rw [show (I ++ [(⟨!j.Upright, j.A, j.B⟩ : Join)]).length = I.length + 1 by simp]
      rw [show (I ++ [(⟨!j.Upright, j.A, j.B⟩ : Join)]).take I.length = (I ++ [j]).take I.length by simp]
      exact ht
    have hse' : sewn ps (I ++ [(⟨!j.Upright, j.A, j.B⟩ : Join)]) = t := goL_stop hx' hrun hno
    unfold areJoins
    rw [hse', hto.seams, decide_eq_false (p := I.length = _) (by simp), Bool.and_false]

end Go.Proofs.Ytmjdgplkcocgmaa
