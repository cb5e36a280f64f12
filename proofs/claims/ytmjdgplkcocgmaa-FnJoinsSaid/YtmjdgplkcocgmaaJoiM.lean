/-
  The joins of a layout make the whole of it, plain.
-/
import Derived.Test.YtmjdgplkcocgmaaJoiA
set_option linter.unusedVariables false
namespace Go.Proofs.Ytmjdgplkcocgmaa

/-! ### the numbers of a part, as pairs of a patch and its number -/
theorem numsOf_zip {c : Cut} {ps : List Patch} {first : Bool} {nums : List Int} (hl : nums.length = ps.length) : ∀ k, k ≤ ps.length → numsOf c ps first nums k = (((ps.zip nums).take k).filter fun z => before c z.1 == first).map (·.2) := by
  intro k
  induction k with
  | zero => intro _; rfl
  | succ k ih =>
    intro hk
    have hx : ps[k]? = some ps[k] := List.getElem?_eq_getElem (by omega)
    have hy : nums[k]? = some nums[k] := List.getElem?_eq_getElem (by omega)
    have hz : (ps.zip nums)[k]? = some (ps[k], nums[k]) := by rw [List.getElem?_zip_eq_some]; exact ⟨hx, hy⟩
    rw [List.take_add_one, hz, List.filter_append, List.map_append, ← ih (by omega)]
    by_cases hb : before c ps[k] = first
    · rw [← numsOf_yes hx hy hb]
      simp [hb]
    · have hb' : before c ps[k] = !first := by
        revert hb
        cases before c ps[k] <;> cases first <;> simp
      rw [← numsOf_no hx hb']
      simp [hb]
theorem numsOf_all {c : Cut} {ps : List Patch} {first : Bool} {nums : List Int} (hl : nums.length = ps.length) : numsOf c ps first nums ps.length = ((ps.zip nums).filter fun z => before c z.1 == first).map (·.2) := by
  rw [numsOf_zip hl _ (Nat.le_refl _), List.take_of_length_le (by rw [List.length_zip]; omega)]
theorem zip_fst {α β : Type} {a : List α} {b : List β} (h : b.length = a.length) : (a.zip b).map (·.1) = a := by
  rw [show (fun z : α × β => z.1) = Prod.fst from rfl, List.map_fst_zip (by omega)]
theorem zip_snd {α β : Type} {a : List α} {b : List β} (h : b.length = a.length) : (a.zip b).map (·.2) = b := by
  rw [show (fun z : α × β => z.2) = Prod.snd from rfl, List.map_snd_zip (by omega)]
theorem zip_maps {α β γ δ : Type} (f : α × β → γ) (g : α × β → δ) (z : List (α × β)) : (z.map f).zip (z.map g) = z.map fun x => (f x, g x) := by
  induction z with
  | nil => rfl
  | cons x z ih => simp [ih]
theorem partA_zip {c : Cut} {ps : List Patch} {nums : List Int} (hl : nums.length = ps.length) : partA c ps = ((ps.zip nums).filter fun z => before c z.1 == true).map (·.1) := by
  conv => lhs; rw [← zip_fst hl]
  unfold partA
  rw [List.filter_map]
  congr 1
  apply List.filter_congr
  intro x _
  simp
theorem partB_zip {c : Cut} {ps : List Patch} {nums : List Int} (hl : nums.length = ps.length) : partB c ps = ((ps.zip nums).filter fun z => before c z.1 == false).map fun z => moved c z.1 := by
  conv => lhs; rw [← zip_fst hl]
  unfold partB
  rw [List.filter_map, List.map_map]
  congr 1
  apply List.filter_congr
  intro x _
  simp
theorem mem_zipA {c : Cut} {ps : List Patch} {nums : List Int} (hl : nums.length = ps.length) {p : Patch} {m : Int} (h : (p, m) ∈ (partA c ps).zip (numsOf c ps true nums ps.length)) : (p, m) ∈ ps.zip nums := by
  rw [partA_zip hl, numsOf_all hl, zip_maps] at h
  obtain ⟨z, hz, he⟩ := List.mem_map.1 h
  have := (List.mem_filter.1 hz).1
  cases he
  exact this
theorem mem_zipB {c : Cut} {ps : List Patch} {nums : List Int} (hl : nums.length = ps.length) {q : Patch} {m : Int} (h : (q, m) ∈ (partB c ps).zip (numsOf c ps false nums ps.length)) : ∃ p, (p, m) ∈ ps.zip nums ∧ q = moved c p := by
  rw [partB_zip hl, numsOf_all hl, zip_maps] at h
  obtain ⟨z, hz, he⟩ := List.mem_map.1 h
  have := (List.mem_filter.1 hz).1
  cases he
  exact ⟨z.1, this, rfl⟩
theorem nums_sub {c : Cut} {ps : List Patch} {first : Bool} {nums : List Int} (hl : nums.length = ps.length) {m : Int} (h : m ∈ numsOf c ps first nums ps.length) : m ∈ nums := by
  rw [numsOf_all hl] at h
  obtain ⟨z, hz, he⟩ := List.mem_map.1 h
  subst he
  exact (List.of_mem_zip (List.mem_filter.1 hz).1).2
theorem nums_nod {c : Cut} {ps : List Patch} {first : Bool} {nums : List Int} (hl : nums.length = ps.length) (hn : nums.Nodup) : (numsOf c ps first nums ps.length).Nodup := by
  rw [numsOf_all hl]
  have h1 : ((ps.zip nums).map (·.2)).Nodup := by rw [zip_snd hl]; exact hn
  exact (List.Sublist.map _ List.filter_sublist).nodup h1
theorem nod_apart {α β : Type} {p : α × β → Bool} {z : List (α × β)} (hn : (z.map (·.2)).Nodup) {m : β} (h1 : m ∈ (z.filter fun x => p x == true).map (·.2)) (h2 : m ∈ (z.filter fun x => p x == false).map (·.2)) : False := by
  obtain ⟨x, hx, ex⟩ := List.mem_map.1 h1
  obtain ⟨y, hy, ey⟩ := List.mem_map.1 h2
  obtain ⟨hx1, hx2⟩ := List.mem_filter.1 hx
  obtain ⟨hy1, hy2⟩ := List.mem_filter.1 hy
  obtain ⟨i, hi, rfl⟩ := List.getElem_of_mem hx1
  obtain ⟨j, hj, rfl⟩ := List.getElem_of_mem hy1
  have e : (z.map (·.2))[i]'(by simpa using hi) = (z.map (·.2))[j]'(by simpa using hj) := by
    rw [List.getElem_map, List.getElem_map]
    exact ex.trans ey.symm
  have hp := List.pairwise_iff_getElem.1 hn
  have hij : i = j := by
    rcases Nat.lt_trichotomy i j with h | h | h
    · exact absurd e (hp i j _ _ h)
    · exact h
    · exact absurd e.symm (hp j i _ _ h)
  subst hij
  rw [beq_iff_eq] at hx2 hy2
  rw [hx2] at hy2
  cases hy2
theorem nums_apart {c : Cut} {ps : List Patch} {nums : List Int} (hl : nums.length = ps.length) (hn : nums.Nodup) {m : Int} (h1 : m ∈ numsOf c ps true nums ps.length) (h2 : m ∈ numsOf c ps false nums ps.length) : False := by
  rw [numsOf_all hl] at h1 h2
  exact nod_apart (p := fun z => before c z.1) (by rw [zip_snd hl]; exact hn) h1 h2

/-! ### one patch is the whole -/
theorem one_whole {w h : Int} {p : Patch} (k : layoutOk w h [p] = true) : p.X = 0 ∧ p.Y = 0 ∧ p.W = w ∧ p.H = h := by
  obtain ⟨hw, hh, _, hall, _, har⟩ := layout_parts k
  have hb := patchIn_bd (show patchIn w h p = true by simpa using hall)
  have ha : p.W * p.H = w * h := by simpa [areaOf] using har
  have h1 : p.W = w := by
    rcases Int.lt_or_le p.W w with hlt | hge
    · have e := Int.mul_le_mul (show p.W ≤ w - 1 by omega) (show p.H ≤ h by omega) (by omega) (by omega)
      rw [Int.sub_mul, Int.one_mul] at e
      omega
    · omega
  have h2 : p.H = h := by
    rw [h1] at ha
    exact Int.eq_of_mul_eq_mul_left (by omega) ha
  omega

/-! ### what the joins of a part make -/
def Sits (q : Patch) (x y w h : Int) : Prop := q.X = x ∧ q.Y = y ∧ q.W = w ∧ q.H = h
structure Lies (s : Sewn) (dx dy : Int) (ps : List Patch) (nums : List Int) : Prop where
  len : nums.length = ps.length
  nod : nums.Nodup
  at_ : ∀ p m, (p, m) ∈ ps.zip nums → 0 ≤ m ∧ m < s.out.length ∧ s.used.getD m.toNat false = false ∧ Sits (pAt s.out m) (p.X + dx) (p.Y + dy) p.W p.H
structure MadeS (s t : Sewn) (l : Lay) (nums : List Int) (dx dy : Int) (J : List Join) (u : Int) : Prop where
  run : runL sewStep s J = some t
  cnt : J.length + 1 = l.ps.length
  len : t.out.length = s.out.length + J.length
  pre : ∀ i, i < s.out.length → t.out[i]? = s.out[i]?
  ulen : t.used.length = s.used.length
  new : ∀ i, t.out.length ≤ i → t.used.getD i false = false
  far : ∀ m : Int, 0 ≤ m → m < s.out.length → m ∉ nums → t.used.getD m.toNat false = s.used.getD m.toNat false
  uin : 0 ≤ u ∧ u < t.out.length
  ufrom : u ∈ nums ∨ (s.out.length : Int) ≤ u
  ufree : t.used.getD u.toNat false = false
  box : Sits (pAt t.out u) dx dy l.w l.h
  last : J ≠ [] → u = s.out.length + J.length - 1
theorem pAt_pre {a b : List Patch} (h : ∀ i, i < a.length → b[i]? = a[i]?) {m : Int} (h0 : 0 ≤ m) (h1 : m < a.length) : pAt b m = pAt a m := by
  unfold pAt
  rw [List.getD_eq_getElem?_getD, List.getD_eq_getElem?_getD, h _ (by omega)]
theorem lies_num {s : Sewn} {dx dy : Int} {ps : List Patch} {nums : List Int} (h : Lies s dx dy ps nums) {m : Int} (hm : m ∈ nums) : 0 ≤ m ∧ m < s.out.length := by
  rw [← zip_snd h.len] at hm
  obtain ⟨z, hz, rfl⟩ := List.mem_map.1 hm
  obtain ⟨h1, h2, _⟩ := h.at_ z.1 z.2 hz
  exact ⟨h1, h2⟩
theorem joins_sewn : ∀ (f : Nat) (l : Lay) (nums : List Int) (s : Sewn) (dx dy : Int), okLay l = true → canSew l = true → l.ps.length ≤ f → (∀ i, s.out.length ≤ i → s.used.getD i false = false) → s.out.length + l.ps.length ≤ s.used.length + 1 →
    Lies s dx dy l.ps nums → ∃ t, MadeS s t l nums dx dy (joinsN f l nums s.out.length).1 (joinsN f l nums s.out.length).2 := by
  intro f
  induction f with
  | zero => intro l nums s dx dy hok _ hf; have := (layout_parts hok).2.2.1; omega
  | succ f ih =>
    intro l nums s dx dy hok hcan hf hnew hroom hL
    by_cases h1 : l.ps.length = 1
    · obtain ⟨p, hp⟩ := List.length_eq_one_iff.1 h1
      have hnl := hL.len
      rw [h1] at hnl
      obtain ⟨m, hm⟩ := List.length_eq_one_iff.1 hnl
      have ho := one_whole (p := p) (by rw [← hp]; exact hok)
      obtain ⟨a1, a2, a3, a4⟩ := hL.at_ p m (by rw [hp, hm]; simp)
      refine ⟨s, ?_⟩
      unfold joinsN
      rw [if_pos h1]
      have hu : nums.getD 0 0 = m := by rw [hm]; rfl
      refine ⟨rfl, by simp [h1], by simp, fun _ _ => rfl, rfl, hnew, fun _ _ _ _ => rfl, ?_, ?_, ?_, ?_, fun h => absurd rfl h⟩
      · show 0 ≤ nums.getD 0 0 ∧ _; rw [hu]; exact ⟨a1, a2⟩
      · show nums.getD 0 0 ∈ nums ∨ _; rw [hu, hm]; exact .inl (by simp)
      · show s.used.getD (nums.getD 0 0).toNat false = false; rw [hu]; exact a3
      · show Sits (pAt s.out (nums.getD 0 0)) _ _ _ _
        rw [hu]
        unfold Sits at *
        omega
    · cases hcs : cutsOf l.w l.h l.ps with
      | nil => have := sew_knot hok h1 hcs; rw [hcan] at this; cases this
      | cons c cs =>
        have hk : isCut l.w l.h l.ps c = true := mem_cuts.1 (by rw [hcs]; simp)
        have hs := cut_smaller hk
        obtain ⟨oA, oB, nA, nB⟩ := parts_ok hk
        have hsew := sew_cut hok h1 hcs
        rw [hcan, Bool.and_eq_true] at hsew
        have hspl := len_split c l.ps
        have hnA := numsA_all c l.ps nums
        have hnl := hL.len
        have hat := (cut_parts hk).2.1
        -- the first part
        obtain ⟨s1, m1⟩ := ih (subA c l) (numsOf c l.ps true nums l.ps.length) s dx dy oA hsew.1 (by omega) hnew (by show s.out.length + (partA c l.ps).length ≤ _; omega)
          ⟨hnA.1, nums_nod hnl hL.nod, fun p m hm => hL.at_ p m (mem_zipA hnl hm)⟩
        unfold joinsN
        rw [if_neg h1, hcs]
        simp only
        generalize joinsN f (subA c l) (numsOf c l.ps true nums l.ps.length) s.out.length = X at m1 ⊢
        have cx := m1.cnt
        have lx := m1.len
        have e1 : ((s.out.length : Nat) : Int) + (X.1.length : Int) = (s1.out.length : Int) := by omega
        rw [e1]
        -- the second part
        have L1 : Lies s1 (dx + (if c.Upright then c.At else 0)) (dy + (if c.Upright then 0 else c.At)) (partB c l.ps) (numsOf c l.ps false nums l.ps.length) := by
          refine ⟨hnA.2, nums_nod hnl hL.nod, fun q m hm => ?_⟩
          have hmB := (List.of_mem_zip hm).2
          obtain ⟨p, hp, rfl⟩ := mem_zipB hnl hm
          obtain ⟨a1, a2, a3, a4⟩ := hL.at_ p m hp
          refine ⟨a1, by omega, ?_, ?_⟩
          · rw [m1.far m a1 a2 (fun h => nums_apart hnl hL.nod h hmB)]
            exact a3
          · rw [pAt_pre m1.pre a1 a2]
            unfold Sits at *
            unfold moved
            split <;> simp only <;> omega
        obtain ⟨s2, m2⟩ := ih (subB c l) (numsOf c l.ps false nums l.ps.length) s1 _ _ oB hsew.2 (by omega) m1.new (by rw [m1.ulen]; show s1.out.length + (partB c l.ps).length ≤ _; have : X.1.length + 1 = (partA c l.ps).length := cx; omega) L1
        generalize joinsN f (subB c l) (numsOf c l.ps false nums l.ps.length) s1.out.length = Y at m2 ⊢
        have cy := m2.cnt
        have ly := m2.len
        have cx' : X.1.length + 1 = (partA c l.ps).length := cx
        have cy' : Y.1.length + 1 = (partB c l.ps).length := cy
        -- the last join
        have huA := m1.uin
        have huB := m2.uin
        have hAB : X.2 ≠ Y.2 := by
          intro e
          rcases m2.ufrom with h | h
          · have hb := (lies_num hL (nums_sub hnl h)).2
            rcases m1.ufrom with h' | h'
            · exact nums_apart hnl hL.nod h' (e ▸ h)
            · omega
          · omega
        have hfA : s2.used.getD X.2.toNat false = false := by
          rw [m2.far X.2 huA.1 huA.2 (fun h => ?_)]
          · exact m1.ufree
          · rcases m1.ufrom with h' | h'
            · exact nums_apart hnl hL.nod h' h
            · have := (lies_num hL (nums_sub hnl h)).2; omega
        have hpA : pAt s2.out X.2 = pAt s1.out X.2 := pAt_pre m2.pre huA.1 huA.2
        have bA : Sits (pAt s2.out X.2) dx dy (wA l.w c) (hA l.h c) := by rw [hpA]; exact m1.box
        have bB : Sits (pAt s2.out Y.2) (dx + (if c.Upright then c.At else 0)) (dy + (if c.Upright then 0 else c.At)) (wB l.w c) (hB l.h c) := m2.box
        have hfree : freeJoin s2 ⟨c.Upright, X.2, Y.2⟩ = true := by
          unfold freeJoin
          simp only [Bool.and_eq_true, within_iff, decide_eq_true_iff, Bool.not_eq_true']
          exact ⟨⟨⟨⟨⟨huA.1, by omega⟩, ⟨huB.1, by omega⟩⟩, hAB⟩, hfA⟩, m2.ufree⟩
        have hfit : fitJoin ⟨c.Upright, X.2, Y.2⟩ (pAt s2.out X.2) (pAt s2.out Y.2) = true := by
          unfold fitJoin
          unfold Sits wA wB hA hB at *
          cases hup : c.Upright
          · simp only [hup, Bool.false_eq_true, if_false, Bool.and_eq_true, decide_eq_true_iff] at *
            omega
          · simp only [hup, if_true, Bool.and_eq_true, decide_eq_true_iff] at *
            omega
        have hbox : Sits (boxOf ⟨c.Upright, X.2, Y.2⟩ (pAt s2.out X.2) (pAt s2.out Y.2)) dx dy l.w l.h := by
          unfold boxOf
          unfold Sits wA wB hA hB at *
          cases hup : c.Upright
          · simp only [hup, Bool.false_eq_true, if_false] at *
            omega
          · simp only [hup, if_true] at *
            omega
        have hstep := sew_yes hfree hfit
        have hul : s2.used.length = s.used.length := by rw [m2.ulen, m1.ulen]
        have hAu : X.2.toNat < s2.used.length := by omega
        have hBu : Y.2.toNat < s2.used.length := by omega
        have hlen : (X.1 ++ Y.1 ++ [(⟨c.Upright, X.2, Y.2⟩ : Join)]).length = X.1.length + Y.1.length + 1 := by simp; omega
        refine ⟨⟨s2.out ++ [boxOf ⟨c.Upright, X.2, Y.2⟩ (pAt s2.out X.2) (pAt s2.out Y.2)], s2.seams ++ [seamOf ⟨c.Upright, X.2, Y.2⟩ (pAt s2.out X.2)], (s2.used.set X.2.toNat true).set Y.2.toNat true⟩, ⟨?_, ?_, ?_, ?_, ?_, ?_, ?_, ?_, ?_, ?_, ?_, ?_⟩⟩
        · rw [runL_append, runL_append, m1.run]
          show ((runL sewStep s1 Y.1).bind _) = _
          rw [m2.run]
          show runL sewStep s2 [_] = _
          unfold runL
          rw [hstep]
          rfl
        · rw [hlen]; omega
        · rw [hlen, List.length_append, List.length_singleton]; omega
        · intro i hi
          rw [List.getElem?_append_left (by omega), m2.pre i (by omega), m1.pre i hi]
        · rw [List.length_set, List.length_set, hul]
        · intro i hi
          rw [List.length_append, List.length_singleton] at hi
          rw [getD_set2 _ _ _ _ hAu hBu, m2.new i (by omega)]
          simp
          omega
        · intro m h0 h2 h3
          have hmA : m ∉ numsOf c l.ps true nums l.ps.length := fun h => h3 (nums_sub hnl h)
          have hmB : m ∉ numsOf c l.ps false nums l.ps.length := fun h => h3 (nums_sub hnl h)
          have n1 : m ≠ X.2 := by
            rintro rfl
            rcases m1.ufrom with h | h
            · exact hmA h
            · omega
          have n2 : m ≠ Y.2 := by
            rintro rfl
            rcases m2.ufrom with h | h
            · exact hmB h
            · omega
          rw [getD_set2 _ _ _ _ hAu hBu, m2.far m h0 (by omega) hmB, m1.far m h0 h2 hmA]
          rw [decide_eq_false (by omega), decide_eq_false (by omega)]; rfl
        · rw [List.length_append, List.length_singleton]
          exact ⟨by omega, by omega⟩
        · exact .inr (by omega)
        · rw [getD_set2 _ _ _ _ hAu hBu, m2.new _ (by omega), decide_eq_false (by omega), decide_eq_false (by omega)]; rfl
        · have e : pAt (s2.out ++ [boxOf ⟨c.Upright, X.2, Y.2⟩ (pAt s2.out X.2) (pAt s2.out Y.2)]) ((s1.out.length : Int) + (Y.1.length : Int)) = boxOf ⟨c.Upright, X.2, Y.2⟩ (pAt s2.out X.2) (pAt s2.out Y.2) := by
            unfold pAt
            rw [List.getD_eq_getElem?_getD, List.getElem?_append_right (by omega), show ((s1.out.length : Int) + (Y.1.length : Int)).toNat - s2.out.length = 0 by omega]
            rfl
          rw [e]
          exact hbox
        · intro _
          rw [hlen]
          omega

end Go.Proofs.Ytmjdgplkcocgmaa
