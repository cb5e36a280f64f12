/-
  Plain functions for straight seams: cuts, parts, knots; no program in sight.
-/
import Derived.Test.YtmjdgplkcocgmaaPlainY
set_option linter.unusedVariables false
namespace Go.Proofs.Ytmjdgplkcocgmaa

structure Cut where
  Upright : Bool
  At : Int
instance : Inhabited Cut := ⟨⟨false, 0⟩⟩

/-- on the left of a cut (or above); on the right (or below) -/
def before (c : Cut) (p : Patch) : Bool := if c.Upright then decide (p.X < c.At) else decide (p.Y < c.At)
def behind (c : Cut) (p : Patch) : Bool := if c.Upright then decide (c.At < p.X + p.W) else decide (c.At < p.Y + p.H)
def crossed (c : Cut) (p : Patch) : Bool := before c p && behind c p
def mostOfCut (w h : Int) (c : Cut) : Int := if c.Upright then w else h
def isCut (w h : Int) (ps : List Patch) (c : Cut) : Bool := layoutOk w h ps && within c.At 1 (mostOfCut w h c - 1) && ps.all fun p => !crossed c p
def cands : List Cut := ((List.range 12).map fun k : Nat => (⟨true, k⟩ : Cut)) ++ (List.range 12).map fun k : Nat => (⟨false, k⟩ : Cut)
def cutsOf (w h : Int) (ps : List Patch) : List Cut := cands.filter (isCut w h ps)
def moved (c : Cut) (p : Patch) : Patch := if c.Upright then ⟨p.X - c.At, p.Y, p.W, p.H, p.Color⟩ else ⟨p.X, p.Y - c.At, p.W, p.H, p.Color⟩
def wA (w : Int) (c : Cut) : Int := if c.Upright then c.At else w
def hA (h : Int) (c : Cut) : Int := if c.Upright then h else c.At
def wB (w : Int) (c : Cut) : Int := if c.Upright then w - c.At else w
def hB (h : Int) (c : Cut) : Int := if c.Upright then h else h - c.At
def partA (c : Cut) (ps : List Patch) : List Patch := ps.filter (before c)
def partB (c : Cut) (ps : List Patch) : List Patch := (ps.filter fun p => !before c p).map (moved c)

theorem cut_parts {w h : Int} {ps : List Patch} {c : Cut} (k : isCut w h ps c = true) : layoutOk w h ps = true ∧ (1 ≤ c.At ∧ c.At ≤ mostOfCut w h c - 1) ∧ ∀ p ∈ ps, crossed c p = false := by
  unfold isCut at k
  rw [Bool.and_eq_true, Bool.and_eq_true] at k
  refine ⟨k.1.1, within_iff.1 k.1.2, fun p hp => ?_⟩
  have := List.all_eq_true.1 k.2 p hp
  simpa using this
theorem cut_no1 {w h : Int} {ps : List Patch} {c : Cut} (k : layoutOk w h ps = false) : false = isCut w h ps c := by
  unfold isCut
  rw [k]; rfl
theorem cut_no2 {w h : Int} {ps : List Patch} {c : Cut} (k : within c.At 1 (mostOfCut w h c - 1) = false) : false = isCut w h ps c := by
  unfold isCut
  rw [k]; simp
theorem cut_no3 {w h : Int} {ps : List Patch} {c : Cut} {i : Nat} {p : Patch} (hp : ps[i]? = some p) (k : crossed c p = true) : false = isCut w h ps c := by
  unfold isCut
  rw [all_no hp (by rw [k]; rfl), Bool.and_false]
theorem cut_end {w h : Int} {ps : List Patch} {c : Cut} (k : layoutOk w h ps = true) (k2 : within c.At 1 (mostOfCut w h c - 1) = true) (k3 : (ps.all fun p => !crossed c p) = true) : true = isCut w h ps c := by
  unfold isCut
  rw [k, k2, k3]; rfl
theorem cuts_none {w h : Int} {ps : List Patch} (k : layoutOk w h ps = false) : cutsOf w h ps = [] := by
  unfold cutsOf
  rw [List.filter_eq_nil_iff]
  intro c _
  rw [← cut_no1 k]
  simp
theorem mem_cands {c : Cut} : c ∈ cands ↔ 0 ≤ c.At ∧ c.At < 12 := by
  unfold cands
  rw [List.mem_append, List.mem_map, List.mem_map]
  constructor
  · rintro (⟨k, hk, rfl⟩ | ⟨k, hk, rfl⟩)
    · have := List.mem_range.1 hk
      simp only
      omega
    · have := List.mem_range.1 hk
      simp only
      omega
  · intro h
    obtain ⟨u, a⟩ := c
    simp only at h
    cases u
    · exact .inr ⟨a.toNat, List.mem_range.2 (by omega), by rw [Int.toNat_of_nonneg h.1]⟩
    · exact .inl ⟨a.toNat, List.mem_range.2 (by omega), by rw [Int.toNat_of_nonneg h.1]⟩
theorem mem_cuts {w h : Int} {ps : List Patch} {c : Cut} : c ∈ cutsOf w h ps ↔ isCut w h ps c = true := by
  unfold cutsOf
  rw [List.mem_filter]
  constructor
  · exact fun h => h.2
  · intro k
    refine ⟨mem_cands.2 ?_, k⟩
    obtain ⟨h1, h2, _⟩ := cut_parts k
    have := layout_parts h1
    unfold mostOfCut at h2
    split at h2 <;> omega

/-! ### the parts of a valid layout are valid layouts -/
theorem before_or {c : Cut} {p : Patch} (k : crossed c p = false) : (before c p = true ∧ behind c p = false) ∨ before c p = false := by
  unfold crossed at k
  cases h1 : before c p
  · exact .inr rfl
  · rw [h1, Bool.true_and] at k
    exact .inl ⟨rfl, k⟩
theorem before_iff {c : Cut} {p : Patch} : before c p = true ↔ (c.Upright = true ∧ p.X < c.At) ∨ (c.Upright = false ∧ p.Y < c.At) := by
  unfold before
  cases c.Upright <;> simp
theorem before_no {c : Cut} {p : Patch} : before c p = false ↔ (c.Upright = true ∧ c.At ≤ p.X) ∨ (c.Upright = false ∧ c.At ≤ p.Y) := by
  unfold before
  cases c.Upright <;> simp
theorem behind_no {c : Cut} {p : Patch} : behind c p = false ↔ (c.Upright = true ∧ p.X + p.W ≤ c.At) ∨ (c.Upright = false ∧ p.Y + p.H ≤ c.At) := by
  unfold behind
  cases c.Upright <;> simp
theorem area_cons (p : Patch) (ps : List Patch) : areaOf (p :: ps) = p.W * p.H + areaOf ps := by simp [areaOf]
theorem area_split (c : Cut) (ps : List Patch) : areaOf (partA c ps) + areaOf (partB c ps) = areaOf ps := by
  induction ps with
  | nil => rfl
  | cons p ps ih =>
    unfold partA partB at *
    rw [area_cons]
    cases hb : before c p
    · rw [List.filter_cons_of_neg (by rw [hb]; simp), List.filter_cons_of_pos (by rw [hb]; rfl), List.map_cons, area_cons]
      have : (moved c p).W = p.W ∧ (moved c p).H = p.H := by unfold moved; split <;> exact ⟨rfl, rfl⟩
      rw [this.1, this.2]
      omega
    · rw [List.filter_cons_of_pos hb, List.filter_cons_of_neg (by rw [hb]; simp), area_cons]
      omega
theorem len_split (c : Cut) (ps : List Patch) : (partA c ps).length + (partB c ps).length = ps.length := by
  unfold partA partB
  rw [List.length_map]
  induction ps with
  | nil => rfl
  | cons p ps ih =>
    cases hb : before c p
    · rw [List.filter_cons_of_neg (by rw [hb]; simp), List.filter_cons_of_pos (by rw [hb]; rfl), List.length_cons, List.length_cons]
      omega
    · rw [List.filter_cons_of_pos hb, List.filter_cons_of_neg (by rw [hb]; simp), List.length_cons, List.length_cons]
      omega
theorem apart_filter {ps : List Patch} (h : apart ps) (f : Patch → Bool) : apart (ps.filter f) := by
  rw [← apartB_iff] at *
  induction ps with
  | nil => rfl
  | cons p ps ih =>
    unfold apartB at h
    rw [Bool.and_eq_true] at h
    cases hf : f p
    · rw [List.filter_cons_of_neg (by rw [hf]; simp)]
      exact ih h.2
    · rw [List.filter_cons_of_pos hf]
      unfold apartB
      rw [ih h.2, Bool.and_true, List.all_eq_true]
      exact fun q hq => List.all_eq_true.1 h.1 q (List.mem_filter.1 hq).1
theorem overlap_moved (c : Cut) (p q : Patch) : overlap (moved c p) (moved c q) = overlap p q := by
  rw [Bool.eq_iff_iff, overlap_iff, overlap_iff]
  unfold moved
  split
  · simp only; omega
  · simp only; omega
theorem apart_map {ps : List Patch} (h : apart ps) (c : Cut) : apart (ps.map (moved c)) := by
  rw [← apartB_iff] at *
  induction ps with
  | nil => rfl
  | cons p ps ih =>
    unfold apartB at h
    rw [Bool.and_eq_true] at h
    rw [List.map_cons]
    unfold apartB
    rw [ih h.2, Bool.and_true, List.all_eq_true]
    intro q hq
    obtain ⟨r, hr, rfl⟩ := List.mem_map.1 hq
    rw [overlap_moved]
    exact List.all_eq_true.1 h.1 r hr
theorem patch_of {w h : Int} {p : Patch} (h1 : 0 ≤ p.X) (h2 : 0 ≤ p.Y) (h3 : 1 ≤ p.W) (h4 : 1 ≤ p.H) (h5 : p.X + p.W ≤ w) (h6 : p.Y + p.H ≤ h) (h7 : 0 ≤ p.Color) (h8 : p.Color ≤ 5) : patchIn w h p = true := by
  unfold patchIn
  simp only [Bool.and_eq_true, within_iff]
  omega
theorem area_nonneg {w h : Int} {ps : List Patch} (k : ps.all (patchIn w h) = true) : (ps.length : Int) ≤ areaOf ps := by
  induction ps with
  | nil => simp [areaOf]
  | cons p ps ih =>
    rw [List.all_cons, Bool.and_eq_true] at k
    have := ih k.2
    have hb := patchIn_bd k.1
    have h1 := Int.mul_le_mul hb.2.2.1 hb.2.2.2.1 (by omega) (by omega)
    rw [area_cons, List.length_cons]
    omega
/-- patches that lie apart and within do not take more than there is -/
theorem area_le {w h : Int} {ps : List Patch} (hw : 0 ≤ w) (hh : 0 ≤ h) (k : ps.all (patchIn w h) = true) (ha : apart ps) : areaOf ps ≤ w * h := by
  rw [← squares_area k]
  have h1 : squares w h ps ≤ h.toNat * w.toNat := sumN_mul_le _ fun y _ => by
    have := sumN_mul_le (f := fun x : Nat => covers ps x y) (b := 1) w.toNat fun x _ => covers_le ha x y
    omega
  have h2 : ((h.toNat * w.toNat : Nat) : Int) = w * h := by
    rw [Int.natCast_mul, Int.toNat_of_nonneg hw, Int.toNat_of_nonneg hh, Int.mul_comm]
  omega
theorem parts_in {w h : Int} {ps : List Patch} {c : Cut} (k : isCut w h ps c = true) : (partA c ps).all (patchIn (wA w c) (hA h c)) = true ∧ (partB c ps).all (patchIn (wB w c) (hB h c)) = true := by
  obtain ⟨hl, hc, hx⟩ := cut_parts k
  obtain ⟨_, _, _, hin, _, _⟩ := layout_parts hl
  constructor
  · rw [List.all_eq_true]
    intro p hp
    unfold partA at hp
    rw [List.mem_filter] at hp
    have hb := patchIn_bd (List.all_eq_true.1 hin p hp.1)
    have hcr := before_or (hx p hp.1)
    rcases hcr with ⟨_, h2⟩ | h2
    · have := behind_no.1 h2
      unfold wA hA
      rcases this with ⟨hu, _⟩ | ⟨hu, _⟩
      · rw [if_pos hu, if_pos hu]
        apply patch_of <;> omega
      · rw [if_neg (by rw [hu]; simp), if_neg (by rw [hu]; simp)]
        apply patch_of <;> omega
    · rw [h2] at hp
      simp at hp
  · rw [List.all_eq_true]
    intro q hq
    unfold partB at hq
    obtain ⟨p, hp, rfl⟩ := List.mem_map.1 hq
    rw [List.mem_filter] at hp
    have hb := patchIn_bd (List.all_eq_true.1 hin p hp.1)
    have hnb : before c p = false := by simpa using hp.2
    unfold wB hB moved
    rcases before_no.1 hnb with ⟨hu, _⟩ | ⟨hu, _⟩
    · rw [if_pos hu, if_pos hu, if_pos hu]
      apply patch_of <;> simp only <;> omega
    · rw [if_neg (by rw [hu]; simp), if_neg (by rw [hu]; simp), if_neg (by rw [hu]; simp)]
      apply patch_of <;> simp only <;> omega
theorem parts_area {w h : Int} {ps : List Patch} {c : Cut} (k : isCut w h ps c = true) : areaOf (partA c ps) = wA w c * hA h c ∧ areaOf (partB c ps) = wB w c * hB h c := by
  obtain ⟨hl, hc, hx⟩ := cut_parts k
  obtain ⟨hw, hh, _, hin, hap, har⟩ := layout_parts hl
  obtain ⟨ia, ib⟩ := parts_in k
  have hs := area_split c ps
  have bd : (0 ≤ wA w c ∧ 0 ≤ hA h c) ∧ 0 ≤ wB w c ∧ 0 ≤ hB h c := by
    unfold mostOfCut at hc
    unfold wA hA wB hB
    split
    · rename_i hu; rw [if_pos hu] at hc; omega
    · rename_i hu; rw [if_neg hu] at hc; omega
  have h1 := area_le bd.1.1 bd.1.2 ia (apart_filter hap _)
  have h2 := area_le bd.2.1 bd.2.2 ib (apart_map (apart_filter hap _) c)
  have h3 : wA w c * hA h c + wB w c * hB h c = w * h := by
    unfold wA hA wB hB
    split
    · rw [← Int.add_mul]; congr 1; omega
    · rw [← Int.mul_add]; congr 1; omega
  omega
theorem parts_ok {w h : Int} {ps : List Patch} {c : Cut} (k : isCut w h ps c = true) :
    layoutOk (wA w c) (hA h c) (partA c ps) = true ∧ layoutOk (wB w c) (hB h c) (partB c ps) = true ∧ 1 ≤ (partA c ps).length ∧ 1 ≤ (partB c ps).length := by
  obtain ⟨hl, hc, hx⟩ := cut_parts k
  obtain ⟨hw, hh, hn, hin, hap, har⟩ := layout_parts hl
  obtain ⟨ia, ib⟩ := parts_in k
  obtain ⟨aa, ab⟩ := parts_area k
  have hlen := len_split c ps
  have bd : ((1 ≤ wA w c ∧ wA w c ≤ 12) ∧ 1 ≤ hA h c ∧ hA h c ≤ 12) ∧ (1 ≤ wB w c ∧ wB w c ≤ 12) ∧ 1 ≤ hB h c ∧ hB h c ≤ 12 := by
    unfold mostOfCut at hc
    unfold wA hA wB hB
    split
    · rename_i hu; rw [if_pos hu] at hc; omega
    · rename_i hu; rw [if_neg hu] at hc; omega
  have pos : ∀ a b : Int, 1 ≤ a → 1 ≤ b → 1 ≤ a * b := fun a b ha hb => by
    have := Int.mul_le_mul ha hb (by omega) (by omega)
    omega
  have na : 1 ≤ (partA c ps).length := by
    have := pos _ _ bd.1.1.1 bd.1.2.1
    rw [← aa] at this
    cases hp : partA c ps with
    | nil => rw [hp] at this; simp [areaOf] at this
    | cons a b => simp
  have nb : 1 ≤ (partB c ps).length := by
    have := pos _ _ bd.2.1.1 bd.2.2.1
    rw [← ab] at this
    cases hp : partB c ps with
    | nil => rw [hp] at this; simp [areaOf] at this
    | cons a b => simp
  refine ⟨layout_of ?_ ia (apart_filter hap _) aa, layout_of ?_ ib (apart_map (apart_filter hap _) c) ab, na, nb⟩
  · unfold dimsOk
    rw [within_iff.2 (by omega), within_iff.2 (by omega), within_iff.2 (by omega)]; rfl
  · unfold dimsOk
    rw [within_iff.2 (by omega), within_iff.2 (by omega), within_iff.2 (by omega)]; rfl

/-! ### the first part that cannot be cut -/
structure Lay where
  w : Int
  h : Int
  ps : List Patch
def subA (c : Cut) (l : Lay) : Lay := ⟨wA l.w c, hA l.h c, partA c l.ps⟩
def subB (c : Cut) (l : Lay) : Lay := ⟨wB l.w c, hB l.h c, partB c l.ps⟩
def okLay (l : Lay) : Bool := layoutOk l.w l.h l.ps
def knotN : Nat → Lay → Option Lay
  | 0, _ => none
  | f + 1, l => if okLay l && decide (l.ps.length ≠ 1) then (match cutsOf l.w l.h l.ps with
    | [] => some l
    | c :: _ => match knotN f (subA c l) with
      | some k => some k
      | none => knotN f (subB c l)) else none
def firstKnot (l : Lay) : Option Lay := knotN l.ps.length l
theorem cut_smaller {l : Lay} {c : Cut} (k : isCut l.w l.h l.ps c = true) : (subA c l).ps.length < l.ps.length ∧ (subB c l).ps.length < l.ps.length := by
  obtain ⟨_, _, h1, h2⟩ := parts_ok k
  have := len_split c l.ps
  exact ⟨by show (partA c l.ps).length < _; omega, by show (partB c l.ps).length < _; omega⟩
theorem knot_fuel : ∀ (f g : Nat) (l : Lay), l.ps.length ≤ f → l.ps.length ≤ g → knotN f l = knotN g l := by
  intro f
  induction f with
  | zero =>
    intro g l hf _
    cases g with
    | zero => rfl
    | succ g =>
      unfold knotN
      rw [if_neg]
      intro hc
      rw [Bool.and_eq_true] at hc
      have := (layout_parts hc.1).2.2.1
      omega
  | succ f ih =>
    intro g l hf hg
    cases g with
    | zero =>
      unfold knotN
      rw [if_neg]
      intro hc
      rw [Bool.and_eq_true] at hc
      have := (layout_parts hc.1).2.2.1
      omega
    | succ g =>
      unfold knotN
      cases hcs : cutsOf l.w l.h l.ps with
      | nil => rfl
      | cons c cs =>
        have hk : isCut l.w l.h l.ps c = true := mem_cuts.1 (by rw [hcs]; simp)
        have hs := cut_smaller hk
        simp only
        rw [ih g _ (by omega) (by omega), ih g (subB c l) (by omega) (by omega)]
theorem knot_none {l : Lay} (k : okLay l = false ∨ l.ps.length = 1) : firstKnot l = none := by
  unfold firstKnot
  cases hl : l.ps.length with
  | zero => rfl
  | succ f =>
    unfold knotN
    rw [if_neg]
    intro hc
    rw [Bool.and_eq_true, decide_eq_true_iff] at hc
    rcases k with k | k
    · rw [k] at hc; exact absurd hc.1 (by simp)
    · exact hc.2 k
theorem knot_here {l : Lay} (k : okLay l = true) (h1 : l.ps.length ≠ 1) (hc : cutsOf l.w l.h l.ps = []) : firstKnot l = some l := by
  have := (layout_parts k).2.2.1
  unfold firstKnot
  obtain ⟨f, hf⟩ : ∃ f, l.ps.length = f + 1 := ⟨l.ps.length - 1, by omega⟩
  rw [hf]
  unfold knotN
  rw [if_pos (by rw [k, decide_eq_true (by omega)]; rfl), hc]
theorem knot_cut {l : Lay} {c : Cut} {cs : List Cut} (k : okLay l = true) (h1 : l.ps.length ≠ 1) (hc : cutsOf l.w l.h l.ps = c :: cs) :
    firstKnot l = match firstKnot (subA c l) with
      | some k => some k
      | none => firstKnot (subB c l) := by
  have := (layout_parts k).2.2.1
  have hk : isCut l.w l.h l.ps c = true := mem_cuts.1 (by rw [hc]; simp)
  have hs := cut_smaller hk
  unfold firstKnot
  obtain ⟨f, hf⟩ : ∃ f, l.ps.length = f + 1 := ⟨l.ps.length - 1, by omega⟩
  rw [hf]
  conv => lhs; unfold knotN
  rw [if_pos (by rw [k, decide_eq_true (by omega)]; rfl), hc]
  simp only
  rw [knot_fuel f (subA c l).ps.length _ (by omega) (Nat.le_refl _), knot_fuel f (subB c l).ps.length _ (by omega) (Nat.le_refl _)]
def canSew (l : Lay) : Bool := okLay l && (firstKnot l).isNone
def countSeams (l : Lay) : Int := if canSew l then (l.ps.length : Int) - 1 else -1

end Go.Proofs.Ytmjdgplkcocgmaa
