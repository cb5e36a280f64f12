/-
  The joins of a layout, plain.
-/
import Derived.Test.YtmjdgplkcocgmaaKnoG
import Derived.Test.YtmjdgplkcocgmaaZPlain
set_option linter.unusedVariables false
namespace Go.Proofs.Ytmjdgplkcocgmaa

def pickNums (ks nums : List Int) : List Int := ks.map fun i => nums.getD i.toNat 0
def numsOf (c : Cut) (ps : List Patch) (first : Bool) (nums : List Int) (k : Nat) : List Int := pickNums (numsUp c ps first k) nums
theorem numsOf_zero (c : Cut) (ps : List Patch) (first : Bool) (nums : List Int) : numsOf c ps first nums 0 = [] := rfl
theorem numsOf_yes {c : Cut} {ps : List Patch} {first : Bool} {nums : List Int} {k : Nat} {p : Patch} {y : Int} (hx : ps[k]? = some p) (hy : nums[k]? = some y) (hb : before c p = first) : numsOf c ps first nums k ++ [y] = numsOf c ps first nums (k + 1) := by
  unfold numsOf pickNums
  rw [← nums_yes hx hb, List.map_append]
  congr 1
  simp [hy]
theorem numsOf_no {c : Cut} {ps : List Patch} {first : Bool} {nums : List Int} {k : Nat} {p : Patch} (hx : ps[k]? = some p) (hb : before c p = !first) : numsOf c ps first nums k = numsOf c ps first nums (k + 1) := by
  unfold numsOf
  rw [nums_no hx hb]
theorem numsOf_len {c : Cut} {ps : List Patch} {first : Bool} {nums : List Int} (k : Nat) : (numsOf c ps first nums k).length ≤ k := by
  unfold numsOf pickNums
  rw [List.length_map]
  exact nums_len c ps first k
theorem numsA_len (c : Cut) (ps : List Patch) (nums : List Int) : ∀ k, k ≤ ps.length → (numsOf c ps true nums k).length = (partA c (ps.take k)).length ∧ (numsOf c ps false nums k).length = (partB c (ps.take k)).length := by
  intro k
  induction k with
  | zero => intro _; exact ⟨rfl, rfl⟩
  | succ k ih =>
    intro hk
    obtain ⟨i1, i2⟩ := ih (by omega)
    have hx : ps[k]? = some ps[k] := List.getElem?_eq_getElem (by omega)
    unfold numsOf pickNums at *
    rw [List.length_map] at *
    rw [List.length_map] at *
    cases hb : before c ps[k]
    · rw [← nums_no (first := true) hx (by rw [hb]; rfl), ← nums_yes (first := false) hx hb, ← pA_no hx hb, ← pB_yes hx hb, List.length_append, List.length_append]
      exact ⟨i1, by simpa using i2⟩
    · rw [← nums_yes (first := true) hx hb, ← nums_no (first := false) hx (by rw [hb]; rfl), ← pA_yes hx hb, ← pB_no hx hb, List.length_append, List.length_append]
      exact ⟨by simpa using i1, i2⟩
theorem numsA_all (c : Cut) (ps : List Patch) (nums : List Int) : (numsOf c ps true nums ps.length).length = (partA c ps).length ∧ (numsOf c ps false nums ps.length).length = (partB c ps).length := by
  have := numsA_len c ps nums ps.length (Nat.le_refl _)
  rwa [List.take_length] at this
def joinsN : Nat → Lay → List Int → Int → List Join × Int
  | 0, _, _, _ => ([], 0)
  | f + 1, l, nums, next => if l.ps.length = 1 then ([], nums.getD 0 0) else match cutsOf l.w l.h l.ps with
    | [] => ([], 0)
    | c :: _ =>
      let x := joinsN f (subA c l) (numsOf c l.ps true nums l.ps.length) next
      let y := joinsN f (subB c l) (numsOf c l.ps false nums l.ps.length) (next + (x.1.length : Int))
      (x.1 ++ y.1 ++ [⟨c.Upright, x.2, y.2⟩], next + (x.1.length : Int) + (y.1.length : Int))
def joinsL (l : Lay) (nums : List Int) (next : Int) : List Join × Int := if canSew l then joinsN l.ps.length l nums next else ([], 0)
theorem joins_fuel : ∀ (f g : Nat) (l : Lay), okLay l = true → l.ps.length ≤ f → l.ps.length ≤ g → ∀ (nums : List Int) (next : Int), joinsN f l nums next = joinsN g l nums next := by
  intro f
  induction f with
  | zero => intro g l hl hf; have := (layout_parts hl).2.2.1; omega
  | succ f ih =>
    intro g l hl hf hg nums next
    cases g with
    | zero => have := (layout_parts hl).2.2.1; omega
    | succ g =>
      unfold joinsN
      by_cases h1 : l.ps.length = 1
      · rw [if_pos h1, if_pos h1]
      · rw [if_neg h1, if_neg h1]
        cases hcs : cutsOf l.w l.h l.ps with
        | nil => rfl
        | cons c cs =>
          have hk : isCut l.w l.h l.ps c = true := mem_cuts.1 (by rw [hcs]; simp)
          have hs := cut_smaller hk
          obtain ⟨oA, oB, _, _⟩ := parts_ok hk
          simp only
          rw [ih g (subA c l) oA (by omega) (by omega), ih g (subB c l) oB (by omega) (by omega)]
theorem joinsN_len : ∀ (f : Nat) (l : Lay) (nums : List Int) (next : Int), 1 ≤ l.ps.length → (joinsN f l nums next).1.length + 1 ≤ l.ps.length := by
  intro f
  induction f with
  | zero => intro l nums next h; unfold joinsN; simpa using h
  | succ f ih =>
    intro l nums next h
    unfold joinsN
    by_cases h1 : l.ps.length = 1
    · rw [if_pos h1]; simpa using h
    · rw [if_neg h1]
      cases hcs : cutsOf l.w l.h l.ps with
      | nil => simpa using h
      | cons c cs =>
        have hk : isCut l.w l.h l.ps c = true := mem_cuts.1 (by rw [hcs]; simp)
        obtain ⟨_, _, nA, nB⟩ := parts_ok hk
        have hl := len_split c l.ps
        have i1 := ih (subA c l) (numsOf c l.ps true nums l.ps.length) next nA
        have i2 := ih (subB c l) (numsOf c l.ps false nums l.ps.length) (next + ((joinsN f (subA c l) (numsOf c l.ps true nums l.ps.length) next).1.length : Int)) nB
        simp only [List.length_append, List.length_singleton]
        have e1 : (subA c l).ps.length = (partA c l.ps).length := rfl
        have e2 : (subB c l).ps.length = (partB c l.ps).length := rfl
        omega
theorem joinsL_len (l : Lay) (nums : List Int) (next : Int) (h : 1 ≤ l.ps.length) : (joinsL l nums next).1.length + 1 ≤ l.ps.length := by
  unfold joinsL
  split
  · exact joinsN_len _ l nums next h
  · simpa using h
theorem joins_no {l : Lay} (k : canSew l = false) (nums : List Int) (next : Int) : joinsL l nums next = ([], 0) := by unfold joinsL; rw [if_neg (by rw [k]; simp)]
theorem joins_one {l : Lay} (k : okLay l = true) (h1 : l.ps.length = 1) (nums : List Int) (next : Int) : joinsL l nums next = ([], nums.getD 0 0) := by
  unfold joinsL
  rw [if_pos (sew_one k h1).symm, h1]
  unfold joinsN
  rw [if_pos h1]
theorem joins_cut {l : Lay} {c : Cut} {cs : List Cut} (k : okLay l = true) (h1 : l.ps.length ≠ 1) (hc : cutsOf l.w l.h l.ps = c :: cs) (kA : canSew (subA c l) = true) (kB : canSew (subB c l) = true) (nums : List Int) (next : Int) (x y : List Join × Int)
    (hx : joinsL (subA c l) (numsOf c l.ps true nums l.ps.length) next = x) (hy : joinsL (subB c l) (numsOf c l.ps false nums l.ps.length) (next + (x.1.length : Int)) = y) :
    joinsL l nums next = (x.1 ++ y.1 ++ [⟨c.Upright, x.2, y.2⟩], next + (x.1.length : Int) + (y.1.length : Int)) := by
  have hk : isCut l.w l.h l.ps c = true := mem_cuts.1 (by rw [hc]; simp)
  have hs := cut_smaller hk
  obtain ⟨oA, oB, nA, nB⟩ := parts_ok hk
  have hS := sew_cut k h1 hc
  rw [kA, kB] at hS
  obtain ⟨f, hf⟩ : ∃ f, l.ps.length = f + 1 := ⟨l.ps.length - 1, by have := (layout_parts k).2.2.1; omega⟩
  unfold joinsL at *
  rw [if_pos kA] at hx
  rw [if_pos kB] at hy
  rw [if_pos (show canSew l = true from hS.symm)]
  rw [← joins_fuel f _ (subA c l) oA (by omega) (Nat.le_refl _)] at hx
  rw [← joins_fuel f _ (subB c l) oB (by omega) (Nat.le_refl _)] at hy
  conv => lhs; rw [hf]
  unfold joinsN
  rw [if_neg h1, hc]
  simp only
  rw [hx]
  rw [hy]

end Go.Proofs.Ytmjdgplkcocgmaa
