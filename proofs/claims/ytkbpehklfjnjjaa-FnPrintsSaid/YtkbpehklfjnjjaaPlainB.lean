/-
  Plain functions for needs and strips; no program in sight.
-/
import Derived.Test.YtkbpehklfjnjjaaPlainA
import Derived.Test.YtkbpehklfjnjjaaPlainT
import Derived.Test.YtkbpehklfjnjjaaPlainL
set_option linter.unusedVariables false
namespace Go.Proofs.Ytkbpehklfjnjjaa

def needOk (n : Need) : Bool := within n.W 1 400 && within n.H 1 400 && within n.Count 1 200
def needsOk (l : List Need) : Bool := l.all needOk && decide (l.length ≤ 8)
theorem needs_bad {l : List Need} {k : Nat} {x : Need} (hx : l[k]? = some x) (hp : needOk x = false) : false = needsOk l := by
  unfold needsOk
  rw [all_no hx hp, Bool.false_and]
theorem needs_end {l : List Need} {n : Nat} (hn : l.length = n) (h : (l.take n).all needOk = true) : decide ((n : Int) ≤ 8) = needsOk l := by
  rw [List.take_of_length_le (by omega)] at h
  unfold needsOk
  rw [h, Bool.true_and, hn]
  rw [Bool.eq_iff_iff]
  simp
  omega

def stripCount (n : Need) (w : Int) : Int := if needOk n = true ∧ within w 1 1000 = true ∧ n.W ≤ w then (n.Count + w / n.W - 1) / (w / n.W) else -1
def turned (n : Need) : Need := ⟨n.H, n.W, n.Count⟩
theorem needOk_bd {n : Need} (h : needOk n = true) : (1 ≤ n.W ∧ n.W ≤ 400) ∧ (1 ≤ n.H ∧ n.H ≤ 400) ∧ 1 ≤ n.Count ∧ n.Count ≤ 200 := by
  unfold needOk at h
  rw [Bool.and_eq_true, Bool.and_eq_true] at h
  exact ⟨within_iff.1 h.1.1, within_iff.1 h.1.2, within_iff.1 h.2⟩
theorem needOk_turned (n : Need) : needOk (turned n) = needOk n := by
  unfold needOk turned
  rw [Bool.and_comm (within n.H 1 400)]
theorem each_bd {w x : Int} (h1 : 1 ≤ x) (h2 : x ≤ w) : 1 ≤ w / x ∧ w / x ≤ w := by
  refine ⟨?_, Int.ediv_le_self _ (by omega)⟩
  rw [Int.le_ediv_iff_mul_le (by omega)]
  omega
theorem ceil_bd {c e : Int} (h1 : 1 ≤ c) (h2 : 1 ≤ e) : 1 ≤ (c + e - 1) / e ∧ (c + e - 1) / e ≤ c := by
  constructor
  · rw [Int.le_ediv_iff_mul_le (by omega)]; omega
  · have : (c + e - 1) / e < c + 1 := by
      rw [Int.ediv_lt_iff_lt_mul (by omega)]
      have h3 : (c + 1) * e = c * e + e := by rw [Int.add_mul, Int.one_mul]
      have h4 : c * 1 ≤ c * e := Int.mul_le_mul_of_nonneg_left h2 (by omega)
      omega
    omega
theorem strip_bd (n : Need) (w : Int) : stripCount n w = -1 ∨ (needOk n = true ∧ 1 ≤ stripCount n w ∧ stripCount n w ≤ 200) := by
  unfold stripCount
  by_cases h : needOk n = true ∧ within w 1 1000 = true ∧ n.W ≤ w
  · rw [if_pos h]
    have hb := needOk_bd h.1
    have he := each_bd hb.1.1 h.2.2
    have hc := ceil_bd hb.2.2.1 he.1
    exact .inr ⟨h.1, hc.1, by omega⟩
  · rw [if_neg h]; exact .inl rfl
theorem mul_bd {a b A B : Int} (h1 : 0 ≤ a) (h2 : a ≤ A) (h3 : 0 ≤ b) (h4 : b ≤ B) : 0 ≤ a * b ∧ a * b ≤ A * B :=
  ⟨Int.mul_nonneg h1 h3, Int.mul_le_mul h2 h4 h3 (by omega)⟩
def betterWay (n : Need) (w : Int) : Bool := (stripCount n w != -1) && (stripCount (turned n) w == -1 || decide (stripCount n w * n.H ≤ stripCount (turned n) w * n.W))
def pick (n : Need) (w : Int) : Need := if betterWay n w = true then n else turned n
def sumBy (w : Int) (l : List Need) : Int := (l.map fun n => stripCount n w * n.H).sum
def lengthBy (p : Need → Need) (w : Int) (l : List Need) : Int := if (l.map p).all (fun n => decide (0 ≤ stripCount n w)) = true then sumBy w (l.map p) else -1
def stripLength (l : List Need) (w : Int) : Int := if needsOk l = true then lengthBy id w l else -1
def leastLength (l : List Need) (w : Int) : Int := if needsOk l = true then lengthBy (fun n => pick n w) w l else -1

theorem lengthBy_bad {p : Need → Need} {w : Int} {l : List Need} {k : Nat} {x : Need} (hx : l[k]? = some x) (h : stripCount (p x) w < 0) : -1 = lengthBy p w l := by
  unfold lengthBy
  rw [if_neg]
  intro hh
  rw [List.all_eq_true] at hh
  have := hh (p x) (List.mem_map.2 ⟨x, List.mem_of_getElem? hx, rfl⟩)
  simp at this
  omega
theorem sumBy_take_succ {w : Int} {l : List Need} {k : Nat} {x : Need} (hx : l[k]? = some x) : sumBy w (l.take (k + 1)) = sumBy w (l.take k) + stripCount x w * x.H := by
  unfold sumBy
  rw [List.take_add_one, hx]
  simp
theorem needsOk_len {l : List Need} (h : needsOk l = true) : l.length ≤ 8 := by
  unfold needsOk at h
  rw [Bool.and_eq_true] at h
  simpa using h.2
theorem needsOk_at {l : List Need} (h : needsOk l = true) {k : Nat} {x : Need} (hx : l[k]? = some x) : needOk x = true := by
  unfold needsOk at h
  rw [Bool.and_eq_true] at h
  exact List.all_eq_true.1 h.1 x (List.mem_of_getElem? hx)
theorem lengthBy_end {p : Need → Need} {w : Int} {l : List Need} {n : Nat} (hn : l.length = n) (h : ((l.map p).take n).all (fun n => decide (0 ≤ stripCount n w)) = true) : sumBy w ((l.map p).take n) = lengthBy p w l := by
  rw [List.take_of_length_le (by simp; omega)] at h ⊢
  unfold lengthBy
  rw [if_pos h]

def colorsMeet (u d w h c : Int) : Bool := fitsBorder u d w h && within c 1 12 && ((unitsAround u d w h + 4) % c == 0)
def printsOk (l : List Int) : Bool := decide (l.length = 6) && l.all (fun n => within n 0 2)
theorem units_bd {u d w h : Int} (hf : fitsBorder u d w h = true) : 0 ≤ unitsAround u d w h ∧ unitsAround u d w h ≤ 16000 := by
  have hb := fits_bd hf
  unfold unitsAround
  rw [if_pos hf]
  omega

end Go.Proofs.Ytkbpehklfjnjjaa
