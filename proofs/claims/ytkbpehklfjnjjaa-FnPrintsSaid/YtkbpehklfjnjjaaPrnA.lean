/-
  How a block may be turned: the plain law; and the contract of the law's own 'has'.
-/
import Derived.Test.YtkbpehklfjnjjaaDrawG
import Derived.Test.YtkbpehklfjnjjaaSeeB
import Derived.Test.YtkbpehklfjnjjaaBlkC
set_option linter.unusedVariables false
namespace Go.Proofs.Ytkbpehklfjnjjaa
open Go.RowKit

def hasK (ks : List Int) (k : Int) : Bool := ks.contains k
theorem hasK_yes {ks : List Int} {k : Int} (h : k ∈ ks) : hasK ks k = true := by unfold hasK; rw [List.contains_eq_mem, decide_eq_true_iff]; exact h
theorem hasK_no {ks : List Int} {k : Int} (h : k ∉ ks) : hasK ks k = false := by unfold hasK; rw [List.contains_eq_mem, decide_eq_false_iff_not]; exact h
theorem kind_bd {ks : List Int} (h : printsOk ks = true) {a : Int} (h0 : 0 ≤ a) (h5 : a ≤ 5) : 0 ≤ kindAt ks a ∧ kindAt ks a ≤ 2 := by
  unfold printsOk at h
  rw [Bool.and_eq_true, decide_eq_true_iff] at h
  obtain ⟨hl, ha⟩ := h
  obtain ⟨p, rfl⟩ := Int.eq_ofNat_of_zero_le h0
  have hp : p < ks.length := by omega
  have hm : kindAt ks (p : Int) ∈ ks := by
    unfold kindAt
    rw [Int.toNat_natCast, List.getD_eq_getElem?_getD, List.getElem?_eq_getElem hp, Option.getD_some]
    exact List.getElem_mem hp
  exact within_iff.1 (List.all_eq_true.1 ha _ hm)
theorem turn_tab {v : Int} (h0 : 0 ≤ v) (h2 : v ≤ 2) : mayTurn v 0 = true ∧ mayTurn v 1 = (v == 0) ∧ mayTurn v 2 = !(v == 2) ∧ mayTurn v 3 = (v == 0) := by
  have : v = 0 ∨ v = 1 ∨ v = 2 := by omega
  rcases this with rfl | rfl | rfl <;> decide
theorem all_eq {α : Type} {p q : α → Bool} {l : List α} (h : ∀ x ∈ l, p x = q x) : l.all p = l.all q := by
  induction l with
  | nil => rfl
  | cons x l ih => rw [List.all_cons, List.all_cons, h x List.mem_cons_self, ih fun y hy => h y (List.mem_cons_of_mem _ hy)]

def flat0 (ks : List Int) (a : Int) : Bool := kindAt ks a == 0
def notStiff (ks : List Int) (a : Int) : Bool := !(kindAt ks a == 2)
theorem prn_see {s : Int} {cs : List Cell} {ks : List Int} (hb : blockOk s cs = true) (hp : printsOk ks = true) :
    maySee s cs ks 0 = true ∧ maySee s cs ks 1 = (colorsOf s cs).all (flat0 ks) ∧ maySee s cs ks 2 = (colorsOf s cs).all (notStiff ks) ∧ maySee s cs ks 3 = (colorsOf s cs).all (flat0 ks) := by
  have tab : ∀ a ∈ colorsOf s cs, _ := fun a ha => turn_tab (kind_bd hp (colors_bd ha).1 (colors_bd ha).2).1 (kind_bd hp (colors_bd ha).1 (colors_bd ha).2).2
  refine ⟨?_, ?_, ?_, ?_⟩
  all_goals (unfold maySee; rw [hb, hp])
  · show (colorsOf s cs).all (turnOk ks 0) = true
    exact List.all_eq_true.2 fun a ha => (tab a ha).1
  · exact all_eq fun a ha => (tab a ha).2.1
  · exact all_eq fun a ha => (tab a ha).2.2.1
  · exact all_eq fun a ha => (tab a ha).2.2.2
theorem prn_sub {s : Int} {cs : List Cell} {ks : List Int} (h : (colorsOf s cs).all (flat0 ks) = true) : (colorsOf s cs).all (notStiff ks) = true := by
  refine List.all_eq_true.2 fun a ha => ?_
  have := List.all_eq_true.1 h a ha
  unfold flat0 at this
  unfold notStiff
  rw [beq_iff_eq] at this
  rw [this]; rfl
theorem prn_turns {s : Int} {cs : List Cell} {ks : List Int} (hb : blockOk s cs = true) (hp : printsOk ks = true) :
    (turnsOf s cs ks = [0, 1, 2, 3] ∧ (colorsOf s cs).all (flat0 ks) = true ∧ (colorsOf s cs).all (notStiff ks) = true) ∨ (turnsOf s cs ks = [0, 2] ∧ (colorsOf s cs).all (flat0 ks) = false ∧ (colorsOf s cs).all (notStiff ks) = true) ∨ (turnsOf s cs ks = [0] ∧ (colorsOf s cs).all (flat0 ks) = false ∧ (colorsOf s cs).all (notStiff ks) = false) := by
  obtain ⟨h0, h1, h2, h3⟩ := prn_see hb hp
  have e : turnsOf s cs ks = (([0, 1, 2, 3] : List Nat).filter fun i : Nat => maySee s cs ks (i : Int)).map fun i : Nat => (i : Int) := rfl
  rcases k0 : (colorsOf s cs).all (flat0 ks) with _ | _
  · rcases k1 : (colorsOf s cs).all (notStiff ks) with _ | _
    · refine .inr (.inr ⟨?_, rfl, rfl⟩)
      rw [k0] at h1 h3; rw [k1] at h2
      rw [e]; simp [h0, h1, h2, h3]
    · refine .inr (.inl ⟨?_, rfl, rfl⟩)
      rw [k0] at h1 h3; rw [k1] at h2
      rw [e]; simp [h0, h1, h2, h3]
  · have k1 := prn_sub k0
    refine .inl ⟨?_, rfl, k1⟩
    rw [k0] at h1 h3; rw [k1] at h2
    rw [e]; simp [h0, h1, h2, h3]
theorem prn_has {s : Int} {cs : List Cell} {ks : List Int} (hb : blockOk s cs = true) (hp : printsOk ks = true) {k : Nat} (hk : k < 4) :
    hasK (turnsOf s cs ks) (k : Int) = maySee s cs ks k ∧ hasK (turnsOf s cs ks) ((4 - (k : Int)) % 4) = maySee s cs ks k := by
  obtain ⟨h0, h1, h2, h3⟩ := prn_see hb hp
  have hk4 : k = 0 ∨ k = 1 ∨ k = 2 ∨ k = 3 := by omega
  rcases prn_turns hb hp with ⟨e, k0, k1⟩ | ⟨e, k0, k1⟩ | ⟨e, k0, k1⟩ <;> rw [e] <;> rw [k0] at h1 h3 <;> rw [k1] at h2 <;> rcases hk4 with rfl | rfl | rfl | rfl <;> first | (rw [show ((0 : Nat) : Int) = 0 from rfl, h0]; decide) | (rw [show ((1 : Nat) : Int) = 1 from rfl, h1]; decide) | (rw [show ((2 : Nat) : Int) = 2 from rfl, h2]; decide) | (rw [show ((3 : Nat) : Int) = 3 from rfl, h3]; decide)
theorem prn_stiff {s : Int} {cs : List Cell} {ks : List Int} (hb : blockOk s cs = true) (hp : printsOk ks = true) {a : Int} (ha : a ∈ colorsOf s cs) :
    hasK (stiffOf s cs ks) a = (kindAt ks a == 2) ∧ (hasK (turnsOf s cs ks) 2 = true → mayTurn (kindAt ks a) 2 = true) := by
  have tab := turn_tab (kind_bd hp (colors_bd ha).1 (colors_bd ha).2).1 (kind_bd hp (colors_bd ha).1 (colors_bd ha).2).2
  constructor
  · rw [stiff_eq hp]
    rcases h : kindAt ks a == 2 with _ | _
    · refine hasK_no fun hm => ?_
      have := (List.mem_filter.1 hm).2
      unfold isStiff at this
      rw [h] at this; cases this
    · exact hasK_yes (List.mem_filter.2 ⟨ha, h⟩)
  · intro h2
    have := (prn_has (k := 2) hb hp (by omega)).1
    rw [show ((2 : Nat) : Int) = 2 from rfl, h2, (prn_see hb hp).2.2.1] at this
    rw [tab.2.2.1]
    exact List.all_eq_true.1 this.symm a ha
theorem prn_end {s : Int} {cs : List Cell} {ks : List Int} (hb : blockOk s cs = true) (hp : printsOk ks = true) :
    hasK (turnsOf s cs ks) 0 = true ∧ (((turnsOf s cs ks).length = 1 ∧ hasK (turnsOf s cs ks) 1 = false) ∨ ((turnsOf s cs ks).length = 2 ∧ hasK (turnsOf s cs ks) 1 = false ∧ (stiffOf s cs ks).length = 0) ∨ (turnsOf s cs ks).length = 4 ∧ (stiffOf s cs ks).length = 0) := by
  have hs : (colorsOf s cs).all (notStiff ks) = true → (stiffOf s cs ks).length = 0 := by
    intro h
    rw [stiff_eq hp, List.length_eq_zero_iff, List.filter_eq_nil_iff]
    intro a ha hh
    have := List.all_eq_true.1 h a ha
    unfold notStiff at this
    unfold isStiff at hh
    rw [hh] at this; cases this
  rcases prn_turns hb hp with ⟨e, k0, k1⟩ | ⟨e, k0, k1⟩ | ⟨e, k0, k1⟩ <;> rw [e]
  · exact ⟨by decide, .inr (.inr ⟨rfl, hs k1⟩)⟩
  · exact ⟨by decide, .inr (.inl ⟨rfl, by decide, hs k1⟩)⟩
  · exact ⟨by decide, .inl ⟨rfl, by decide⟩⟩
theorem zeros_ok : printsOk [0, 0, 0, 0, 0, 0] = true := by decide
theorem zero_at (a : Int) : kindAt [0, 0, 0, 0, 0, 0] a = 0 := by
  unfold kindAt
  generalize a.toNat = p
  match p with
  | 0 | 1 | 2 | 3 | 4 | 5 => rfl
  | p + 6 => rfl
theorem prn_plain {s : Int} {cs : List Cell} (hb : blockOk s cs = true) : (turnsOf s cs [0, 0, 0, 0, 0, 0]).length = 4 := by
  have h : (colorsOf s cs).all (flat0 [0, 0, 0, 0, 0, 0]) = true := List.all_eq_true.2 fun a _ => by unfold flat0; rw [zero_at]; rfl
  rcases prn_turns hb zeros_ok with ⟨e, _, _⟩ | ⟨_, k0, _⟩ | ⟨_, k0, _⟩
  · rw [e]; rfl
  · rw [h] at k0; cases k0
  · rw [h] at k0; cases k0
theorem prn_bad {s : Int} {cs : List Cell} {ks : List Int} (h : (blockOk s cs && printsOk ks) = false) : (turnsOf s cs ks).length = 0 ∧ (stiffOf s cs ks).length = 0 := by
  constructor
  · unfold turnsOf turnsUp
    rw [List.length_map, List.length_eq_zero_iff, List.filter_eq_nil_iff]
    intro i _ hh
    unfold maySee at hh
    rw [h, Bool.false_and, Bool.false_and] at hh
    cases hh
  · unfold stiffOf
    rw [h]; rfl

theorem has_any (A : Option Addr) (n c : Nat) (ks : List Int) (k : Int) (W : World) (hR : Rd W A n 1 ks intC) (hN : n ≤ 1048576) :
    Calls Try.prog 28 #[.slice A n c, .int .i64 k] W fun e w' => e = .returned (.bool (hasK ks k)) ∧ W = w' := by
  have HLEN := Lib.hid hR.len
  go_enter Try.func28, Try.ntmps28
  go_wp2
  go_loop [5] (fun i => ∃ j : Nat, j ≤ n ∧ i = .int .i64 (j : Int) ∧ Hid (k ∉ ks.take j)) (fun i => n - (intOf i).toNat)
  case atStart => exact ⟨0, Nat.zero_le _, rfl, by simp [Hid]⟩
  case round =>
    obtain ⟨j, hj, rfl, hno⟩ := hrel
    by_cases hlt : j < n
    · obtain ⟨b, off, x, rfl, hbW, hx, hc⟩ := hR.at1 hlt (Below.refl _ _)
      have HX := Lib.hid hx
      clear hx
      have hjI : (j : Int) < (n : Int) := by omega
      by_cases hxk : x = k
      · subst hxk
        go_wp2
        go_ret
        exact ⟨ret_b (hasK_yes (List.mem_of_getElem? HX.out)).symm, rfl⟩
      · have hxb : (x == k) = false := by simpa using hxk
        go_wp2
        go_round
        case rel =>
          refine ⟨j + 1, by omega, by go_num, Lib.hid fun hm => ?_⟩
          rw [List.take_add_one, HX.out] at hm
          rcases List.mem_append.1 hm with h1 | h1
          · exact hno.out h1
          · simp at h1
            exact hxk h1.symm
        case measure => simp [intOf]; omega
    · obtain rfl : j = n := by omega
      go_wp2
      go_ret
      have h := hno.out
      rw [List.take_of_length_le (by rw [HLEN.out]; exact Nat.le_refl _)] at h
      exact ⟨ret_b (hasK_no h).symm, rfl⟩

end Go.Proofs.Ytkbpehklfjnjjaa
