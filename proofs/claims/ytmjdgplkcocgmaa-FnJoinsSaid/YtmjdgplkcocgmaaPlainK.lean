/-
  A layout of which a patch is cut in two is a layout.
-/
import Derived.Test.YtmjdgplkcocgmaaZPlain
import Derived.Test.YtmjdgplkcocgmaaZWords
set_option linter.unusedVariables false
namespace Go.Proofs.Ytmjdgplkcocgmaa
open Go.RowKit

theorem overlap_comm' (p q : Patch) : overlap p q = overlap q p := by
  rw [Bool.eq_iff_iff]
  unfold overlap
  simp only [Bool.and_eq_true, decide_eq_true_iff]
  omega
theorem area_set {ps : List Patch} : ∀ {i : Nat} {p p1 : Patch}, ps[i]? = some p → areaOf (ps.set i p1) + p.W * p.H = areaOf ps + p1.W * p1.H := by
  induction ps with
  | nil => intro i p p1 h; simp at h
  | cons x xs ih =>
    intro i p p1 h
    cases i with
    | zero =>
      simp only [List.getElem?_cons_zero, Option.some.injEq] at h
      subst h
      rw [List.set_cons_zero, area_cons, area_cons]
      omega
    | succ i =>
      rw [List.getElem?_cons_succ] at h
      rw [List.set_cons_succ, area_cons, area_cons]
      have := ih (p1 := p1) h
      omega
theorem area_snoc (ps : List Patch) (q : Patch) : areaOf (ps ++ [q]) = areaOf ps + q.W * q.H := by simp [areaOf]
theorem layout_cut {w h : Int} {ps : List Patch} {i : Nat} {p p1 q : Patch} (k : layoutOk w h ps = true) (hp : ps[i]? = some p) (hl : ps.length < 12) (ok1 : patchIn w h p1 = true) (okq : patchIn w h q = true)
    (hov : overlap q p1 = false) (h1 : ∀ r, overlap p1 r = true → overlap p r = true) (h2 : ∀ r, overlap q r = true → overlap p r = true) (har : p1.W * p1.H + q.W * q.H = p.W * p.H) : layoutOk w h (ps.set i p1 ++ [q]) = true := by
  obtain ⟨hw, hh, hn, hin, hap, hA⟩ := layout_parts k
  have hlen : (ps.set i p1 ++ [q]).length = ps.length + 1 := by simp
  refine layout_of ?_ ?_ ?_ ?_
  · unfold dimsOk
    rw [within_iff.2 (by omega), within_iff.2 (by omega), hlen, within_iff.2 (by omega)]; rfl
  · rw [List.all_eq_true]
    intro x hx
    rcases List.mem_append.1 hx with hx | hx
    · rcases List.mem_or_eq_of_mem_set hx with hx | rfl
      · exact List.all_eq_true.1 hin x hx
      · exact ok1
    · rw [List.mem_singleton.1 hx]; exact okq
  · have no : ∀ (a b : Nat) (r s : Patch), ps[a]? = some r → ps[b]? = some s → a ≠ b → overlap r s = false := fun a b r s ha hb hne => by
      rcases Nat.lt_or_gt_of_ne hne with hlt | hlt
      · rw [overlap_comm']; exact hap b a s r hb ha hlt
      · exact hap a b r s ha hb hlt
    have f1 : ∀ (b : Nat) (s : Patch), ps[b]? = some s → b ≠ i → overlap p1 s = false := fun b s hb hne => by
      rcases hov : overlap p1 s with _ | _
      · rfl
      · have := h1 s hov
        rw [no i b p s hp hb (fun e => hne e.symm)] at this
        cases this
    have f2 : ∀ (b : Nat) (s : Patch), ps[b]? = some s → b ≠ i → overlap q s = false := fun b s hb hne => by
      rcases hov : overlap q s with _ | _
      · rfl
      · have := h2 s hov
        rw [no i b p s hp hb (fun e => hne e.symm)] at this
        cases this
    intro a b r s ha hb hlt
    rcases push_look ha with ua | ⟨ua, ra⟩
    · rcases push_look hb with ub | ⟨ub, rb⟩
      · rcases set_look ua with ⟨na, va⟩ | ⟨na, ra⟩
        · rcases set_look ub with ⟨nb, vb⟩ | ⟨nb, rb⟩
          · exact hap a b r s va vb hlt
          · rw [rb, overlap_comm']; exact f1 a r va na
        · rcases set_look ub with ⟨nb, vb⟩ | ⟨nb, rb⟩
          · rw [ra]; exact f1 b s vb nb
          · omega
      · have := (List.getElem?_eq_some_iff.1 ua).1
        omega
    · rcases push_look hb with ub | ⟨ub, rb⟩
      · rcases set_look ub with ⟨nb, vb⟩ | ⟨nb, rb⟩
        · rw [ra]; exact f2 b s vb nb
        · rw [ra, rb]; exact hov
      · omega
  · rw [area_snoc]
    have := area_set (p1 := p1) hp
    omega

theorem cut_x {w h : Int} {ps : List Patch} {i : Nat} {x y pw ph c c2 a : Int} (k : layoutOk w h ps = true) (hp : ps[i]? = some ⟨x, y, pw, ph, c⟩) (hl : ps.length < 12) (a1 : 1 ≤ a) (a2 : a < pw) (b1 : 0 ≤ c2) (b2 : c2 ≤ 5) :
    layoutOk w h (ps.set i ⟨x, y, a, ph, c⟩ ++ [⟨x + a, y, pw - a, ph, c2⟩]) = true := by
  have hi := List.all_eq_true.1 (layout_parts k).2.2.2.1 _ (List.mem_of_getElem? hp)
  unfold patchIn at hi
  simp only [Bool.and_eq_true, within_iff] at hi
  refine layout_cut k hp hl (patch_of ?_ ?_ ?_ ?_ ?_ ?_ ?_ ?_) (patch_of ?_ ?_ ?_ ?_ ?_ ?_ b1 b2) ?_ ?_ ?_ ?_
  all_goals first | (simp only; omega) | skip
  · rcases q : overlap ⟨x + a, y, pw - a, ph, c2⟩ ⟨x, y, a, ph, c⟩ with _ | _
    · rfl
    · unfold overlap at q
      simp only [Bool.and_eq_true, decide_eq_true_iff] at q
      omega
  · intro r hr
    unfold overlap at *
    simp only [Bool.and_eq_true, decide_eq_true_iff] at *
    omega
  · intro r hr
    unfold overlap at *
    simp only [Bool.and_eq_true, decide_eq_true_iff] at *
    omega
  · simp only
    rw [Int.sub_mul]
    omega
theorem cut_y {w h : Int} {ps : List Patch} {i : Nat} {x y pw ph c c2 a : Int} (k : layoutOk w h ps = true) (hp : ps[i]? = some ⟨x, y, pw, ph, c⟩) (hl : ps.length < 12) (a1 : 1 ≤ a) (a2 : a < ph) (b1 : 0 ≤ c2) (b2 : c2 ≤ 5) :
    layoutOk w h (ps.set i ⟨x, y, pw, a, c⟩ ++ [⟨x, y + a, pw, ph - a, c2⟩]) = true := by
  have hi := List.all_eq_true.1 (layout_parts k).2.2.2.1 _ (List.mem_of_getElem? hp)
  unfold patchIn at hi
  simp only [Bool.and_eq_true, within_iff] at hi
  refine layout_cut k hp hl (patch_of ?_ ?_ ?_ ?_ ?_ ?_ ?_ ?_) (patch_of ?_ ?_ ?_ ?_ ?_ ?_ b1 b2) ?_ ?_ ?_ ?_
  all_goals first | (simp only; omega) | skip
  · rcases q : overlap ⟨x, y + a, pw, ph - a, c2⟩ ⟨x, y, pw, a, c⟩ with _ | _
    · rfl
    · unfold overlap at q
      simp only [Bool.and_eq_true, decide_eq_true_iff] at q
      omega
  · intro r hr
    unfold overlap at *
    simp only [Bool.and_eq_true, decide_eq_true_iff] at *
    omega
  · intro r hr
    unfold overlap at *
    simp only [Bool.and_eq_true, decide_eq_true_iff] at *
    omega
  · simp only
    rw [Int.mul_sub]
    omega
theorem one_ok {w h : Int} (h1 : 1 ≤ w) (h2 : w ≤ 12) (h3 : 1 ≤ h) (h4 : h ≤ 12) : layoutOk w h [⟨0, 0, w, h, 0⟩] = true := by
  refine layout_of ?_ ?_ ?_ (by simp [areaOf])
  · unfold dimsOk
    rw [within_iff.2 (by omega), within_iff.2 (by omega), within_iff.2 (by simp)]; rfl
  · rw [List.all_cons, patch_of (by simp) (by simp) h1 h3 (by simp) (by simp) (by simp) (by simp)]; rfl
  · intro a b p q ha hb hlt
    have h1 := (List.getElem?_eq_some_iff.1 ha).1
    simp at h1
    omega
def sampleP : List Patch := [⟨0, 0, 2, 1, 0⟩, ⟨2, 0, 1, 2, 1⟩, ⟨1, 2, 2, 1, 2⟩, ⟨0, 1, 1, 2, 3⟩, ⟨1, 1, 1, 1, 4⟩]
theorem sample_ok : layoutOk 3 3 sampleP = true := by
  refine layout_of (by decide) (by decide) ?_ (by decide)
  rw [← apartB_iff]
  decide

end Go.Proofs.Ytmjdgplkcocgmaa
