/-
  Contracts over layouts: the cloth that is needed.
-/
import Derived.Test.YtmjdgplkcocgmaaCutB
set_option linter.unusedVariables false
namespace Go.Proofs.Ytmjdgplkcocgmaa
open Go.RowKit

def rowMul (r : List Int) : Int := r.getD 0 0 * r.getD 1 0
def mulSum (rs : List (List Int)) : Int := (rs.map rowMul).sum
def clothOf (w h : Int) (ps : List Patch) (s : Int) : Int := if (patchCuts w h ps s).length = 0 then -1 else mulSum (patchCuts w h ps s)
def goodRow (r : List Int) : Prop := ∃ a b : Int, r = [a, b] ∧ 0 ≤ a ∧ a ≤ 1004 ∧ 0 ≤ b ∧ b ≤ 1004
theorem mulSum_succ {rs : List (List Int)} {k : Nat} {r : List Int} (hr : rs[k]? = some r) : mulSum (rs.take (k + 1)) = mulSum (rs.take k) + rowMul r := by
  unfold mulSum
  rw [List.take_add_one, hr, List.map_append, List.sum_append]
  simp
theorem mul_bd1004 {a b : Int} (h1 : 0 ≤ a) (h2 : a ≤ 1004) (h3 : 0 ≤ b) (h4 : b ≤ 1004) : 0 ≤ a * b ∧ a * b ≤ 1008016 := by
  have h5 : 0 ≤ a * b := Int.mul_nonneg h1 h3
  have h6 : a * b ≤ 1004 * 1004 := Int.mul_le_mul h2 h4 h3 (by decide)
  omega
theorem mulSum_bd {rs : List (List Int)} (h : ∀ r ∈ rs, goodRow r) : ∀ k, 0 ≤ mulSum (rs.take k) ∧ mulSum (rs.take k) ≤ 1008016 * (k : Int) := by
  intro k
  induction k with
  | zero => exact ⟨Int.le_refl _, Int.le_refl _⟩
  | succ k ih =>
    cases hx : rs[k]? with
    | none =>
      rw [show rs.take (k + 1) = rs.take k by rw [List.take_of_length_le (by have := List.getElem?_eq_none_iff.1 hx; omega), List.take_of_length_le (List.getElem?_eq_none_iff.1 hx)]]
      omega
    | some r =>
      obtain ⟨a, b, rfl, h1, h2, h3, h4⟩ := h r (List.mem_of_getElem? hx)
      have := mul_bd1004 h1 h2 h3 h4
      rw [mulSum_succ hx]
      show 0 ≤ _ + a * b ∧ _ + a * b ≤ _
      omega
theorem cuts_good (w h : Int) (ps : List Patch) (s : Int) : (patchCuts w h ps s).length ≤ 12 ∧ ∀ r ∈ patchCuts w h ps s, goodRow r := by
  cases hl : layoutOk w h ps
  · rw [cuts_no1 hl]
    exact ⟨by simp, fun r hr => by simp at hr⟩
  cases hs : within s 1 40
  · rw [cuts_no2 hs]
    exact ⟨by simp, fun r hr => by simp at hr⟩
  · rw [cuts_yes hl hs]
    obtain ⟨hw, hh, hn12, hall, _, _⟩ := layout_parts hl
    have hsb := within_iff.1 hs
    refine ⟨by rw [List.length_map]; omega, fun r hr => ?_⟩
    obtain ⟨p, hp, rfl⟩ := List.mem_map.1 hr
    have hb := patchIn_bd (List.all_eq_true.1 hall p hp)
    have h1 := mul_bd40 (a := p.W) (s := s) (by omega) (by omega) (by omega) (by omega)
    have h2 := mul_bd40 (a := p.H) (s := s) (by omega) (by omega) (by omega) (by omega)
    refine ⟨_, _, rfl, ?_, ?_, ?_, ?_⟩
    all_goals first | rw [cut_small (x := p.W * s) (by omega) (by omega)] | rw [cut_small (x := p.H * s) (by omega) (by omega)]
    all_goals omega
theorem cuts_small (w h : Int) (ps : List Patch) (s : Int) : (patchCuts w h ps s).length ≤ 12 ∧ ∀ r ∈ patchCuts w h ps s, r.length ≤ 2 :=
  ⟨(cuts_good w h ps s).1, fun r hr => by obtain ⟨a, b, rfl, _⟩ := (cuts_good w h ps s).2 r hr; simp⟩
theorem lens_le {α : Type} {m : Nat} : ∀ {rows : List (List α)}, (∀ r ∈ rows, r.length ≤ m) → lens rows ≤ m * rows.length := by
  intro rows
  induction rows with
  | nil => intro _; simp [lens]
  | cons r rows ih =>
    intro h
    have h5 := ih fun r' hr' => h r' (List.mem_cons_of_mem _ hr')
    have h6 := h r (List.mem_cons_self ..)
    simp only [lens, List.map_cons, List.sum_cons, List.length_cons, Nat.mul_add, Nat.mul_one] at h5 ⊢
    omega

set_option maxRecDepth 100000 in
theorem clothI_any (w h : Int) (A : Option Addr) (n c : Nat) (ps : List Patch) (s : Int) (W : World) (hR : Rd W A n 5 ps patchC) (hN : n ≤ 1048576) :
    Calls Try.prog 25 #[.agg #[.int .i64 w, .int .i64 h, .slice A n c], .int .i64 s] W fun e w' => e = .returned (.int .i64 (clothOf w h ps s)) ∧ Below W.heap.size W w' := by
  have hRa : Rd (W.alloc (.cells #[.int .i64 w, .int .i64 h, .slice A n c] 30)) A n 5 ps patchC := hR.below ((Below.refl _ _).alloc (Nat.le_refl _) _)
  obtain ⟨hg1, hg2⟩ := cuts_good w h ps s
  obtain ⟨rs, hrs⟩ : ∃ rs, Hid (rs = patchCuts w h ps s) := ⟨_, rfl⟩
  have hC := cutsI_any w h A n c ps s
  rw [← hrs.out] at hC hg1 hg2
  have HC := Lib.hid hC
  have HG := Lib.hid hg2
  have HF := Lib.hid (show (if rs.length = 0 then -1 else mulSum rs) = clothOf w h ps s by unfold clothOf; rw [hrs.out])
  clear hC
  go_enter Try.func25, Try.ntmps25
  go_wp2_with fail
  refine (HC.out _ hRa hN).mono ?_
  rintro e w1 ⟨A1, c1, rfl, hk1, hO1, hb1⟩
  have hR1 := hO1.rd
  have hB1 : Below W.heap.size W w1 := by (repeat (first | exact Below.refl _ _ | assumption | (refine Below.drew ?_) | (refine below_drewN ?_ _) | (refine Below.alloc ?_ (by first | exact Nat.le_refl _ | (simp; done) | (simp; omega) | omega) _) | (refine Below.setCell ?_ (by first | exact Nat.le_refl _ | (simp; done) | (simp; omega) | omega) _) | (refine Below.trans ?_ (Below.mono (by assumption) (by first | exact Nat.le_refl _ | (simp; done) | (simp; omega) | omega)))))
  clear hO1 hk1 hb1
  by_cases h0 : rs.length = 0
  · have h0' : ((rs.length : Int) == 0) = true := by rw [h0]; rfl
    rw [if_pos h0] at HF
    clear h0
    go_wp2
    go_ret
    exact ⟨ret_i HF.out, hB1⟩
  · have h0' : ((rs.length : Int) == 0) = false := by rw [beq_eq_false_iff_ne]; omega
    rw [if_neg h0] at HF
    clear h0
    go_wp2
    go_loopw [6, 17] (fun o i wr => ∃ k : Nat, k ≤ rs.length ∧ i = .int .i64 (k : Int) ∧ o = .int .i64 (mulSum (rs.take k)) ∧ Below w1.heap.size w1 wr) (fun _ i _ => rs.length - (intOf i).toNat)
    case atStart => exact ⟨0, Nat.zero_le _, rfl, rfl, Below.refl _ _⟩
    case round =>
      obtain ⟨k, hk, rfl, rfl, hB⟩ := hrel
      by_cases hlt : k < rs.length
      · obtain ⟨b, off, A', n', c', r, rfl, hbW, hr, g0, hnc, hrn, hrR⟩ := hR1.at_ hlt hB
        obtain ⟨x, y, rfl, hx1, hx2, hy1, hy2⟩ := HG.out r (List.mem_of_getElem? hr)
        have HS := Lib.hid (mulSum_succ hr)
        have hbd := mulSum_bd HG.out k
        have hm := mul_bd1004 hx1 hx2 hy1 hy2
        have hn2 : n' = 2 := by rw [← hrn]; rfl
        subst hn2
        obtain ⟨b2, o2, z, rfl, hb2, hz, k0⟩ := hrR.int (k := 0) (by omega) (Below.refl _ _)
        obtain ⟨b3, o3, z', ee, hb3, hz', k1⟩ := hrR.int (k := 1) (by omega) (Below.refl _ _)
        injection ee with ee
        injection ee with ee1 ee2
        subst ee1 ee2
        obtain rfl : x = z := by simpa using hz
        obtain rfl : y = z' := by simpa using hz'
        rw [Nat.add_zero] at k0
        have HS2 := Lib.hid (show mulSum (rs.take (k + 1)) = mulSum (rs.take k) + x * y from HS.out)
        clear hr hrR hz hz' hrn HS
        generalize mulSum (rs.take k) = ms at hbd HS2
        go_wp2
        go_quiet (fail)
        go_wp2
        go_roundw
        case rel => exact ⟨k + 1, by omega, by go_num, by rw [HS2.out], by (repeat (first | exact Below.refl _ _ | assumption | (refine Below.drew ?_) | (refine below_drewN ?_ _) | (refine Below.alloc ?_ (by first | exact Nat.le_refl _ | (simp; done) | (simp; omega) | omega) _) | (refine Below.setCell ?_ (by first | exact Nat.le_refl _ | (simp; done) | (simp; omega) | omega) _) | (refine Below.trans ?_ (Below.mono (by assumption) (by first | exact Nat.le_refl _ | (simp; done) | (simp; omega) | omega)))))⟩
        case measure => simp [intOf]; omega
      · obtain rfl : k = rs.length := by omega
        rw [List.take_length] at *
        go_wp2
        go_ret
        exact ⟨ret_i HF.out, hB1.trans (hB.mono hB1.size)⟩

set_option maxRecDepth 100000 in
theorem clothS_any (w h : Int) (A : Option Addr) (n c : Nat) (ps : List Patch) (s : Int) (W : World) (hR : Rd W A n 5 ps patchC) (hN : n ≤ 1048576) :
    Calls Try.prog 24 #[.agg #[.int .i64 w, .int .i64 h, .slice A n c], .int .i64 s] W fun e w' => e = .returned (.int .i64 (clothOf w h ps s)) ∧ Below W.heap.size W w' := by
  have hRa : Rd (W.alloc (.cells #[.int .i64 w, .int .i64 h, .slice A n c] 30)) A n 5 ps patchC := hR.below ((Below.refl _ _).alloc (Nat.le_refl _) _)
  obtain ⟨hg1, hg2⟩ := cuts_good w h ps s
  obtain ⟨rs, hrs⟩ : ∃ rs, Hid (rs = patchCuts w h ps s) := ⟨_, rfl⟩
  have hC := cutsS_any w h A n c ps s
  rw [← hrs.out] at hC hg1 hg2
  have HC := Lib.hid hC
  have HG := Lib.hid hg2
  have HF := Lib.hid (show (if rs.length = 0 then -1 else mulSum rs) = clothOf w h ps s by unfold clothOf; rw [hrs.out])
  clear hC
  go_enter Try.func24, Try.ntmps24
  go_wp2_with fail
  refine (HC.out _ hRa hN).mono ?_
  rintro e w1 ⟨A1, c1, rfl, hk1, hO1, hb1⟩
  have hR1 := hO1.rd
  have hB1 : Below W.heap.size W w1 := by (repeat (first | exact Below.refl _ _ | assumption | (refine Below.drew ?_) | (refine below_drewN ?_ _) | (refine Below.alloc ?_ (by first | exact Nat.le_refl _ | (simp; done) | (simp; omega) | omega) _) | (refine Below.setCell ?_ (by first | exact Nat.le_refl _ | (simp; done) | (simp; omega) | omega) _) | (refine Below.trans ?_ (Below.mono (by assumption) (by first | exact Nat.le_refl _ | (simp; done) | (simp; omega) | omega)))))
  clear hO1 hk1 hb1
  by_cases h0 : rs.length = 0
  · have h0' : ((rs.length : Int) == 0) = true := by rw [h0]; rfl
    rw [if_pos h0] at HF
    clear h0
    go_wp2
    go_ret
    exact ⟨ret_i HF.out, hB1⟩
  · have h0' : ((rs.length : Int) == 0) = false := by rw [beq_eq_false_iff_ne]; omega
    rw [if_neg h0] at HF
    clear h0
    go_wp2
    go_loopw [6, 7] (fun o i wr => ∃ k : Nat, k ≤ rs.length ∧ i = .int .i64 (k : Int) ∧ o = .int .i64 (mulSum (rs.take k)) ∧ Below w1.heap.size w1 wr) (fun _ i _ => rs.length - (intOf i).toNat)
    case atStart => exact ⟨0, Nat.zero_le _, rfl, rfl, Below.refl _ _⟩
    case round =>
      obtain ⟨k, hk, rfl, rfl, hB⟩ := hrel
      by_cases hlt : k < rs.length
      · obtain ⟨b, off, A', n', c', r, rfl, hbW, hr, g0, hnc, hrn, hrR⟩ := hR1.at_ hlt hB
        obtain ⟨x, y, rfl, hx1, hx2, hy1, hy2⟩ := HG.out r (List.mem_of_getElem? hr)
        have HS := Lib.hid (mulSum_succ hr)
        have hbd := mulSum_bd HG.out k
        have hm := mul_bd1004 hx1 hx2 hy1 hy2
        have hn2 : n' = 2 := by rw [← hrn]; rfl
        subst hn2
        obtain ⟨b2, o2, z, rfl, hb2, hz, k0⟩ := hrR.int (k := 0) (by omega) (Below.refl _ _)
        obtain ⟨b3, o3, z', ee, hb3, hz', k1⟩ := hrR.int (k := 1) (by omega) (Below.refl _ _)
        injection ee with ee
        injection ee with ee1 ee2
        subst ee1 ee2
        obtain rfl : x = z := by simpa using hz
        obtain rfl : y = z' := by simpa using hz'
        rw [Nat.add_zero] at k0
        have HS2 := Lib.hid (show mulSum (rs.take (k + 1)) = mulSum (rs.take k) + x * y from HS.out)
        clear hr hrR hz hz' hrn HS
        generalize mulSum (rs.take k) = ms at hbd HS2
        go_wp2
        go_quiet (fail)
        go_wp2
        go_roundw
        case rel => exact ⟨k + 1, by omega, by go_num, by rw [HS2.out], by (repeat (first | exact Below.refl _ _ | assumption | (refine Below.drew ?_) | (refine below_drewN ?_ _) | (refine Below.alloc ?_ (by first | exact Nat.le_refl _ | (simp; done) | (simp; omega) | omega) _) | (refine Below.setCell ?_ (by first | exact Nat.le_refl _ | (simp; done) | (simp; omega) | omega) _) | (refine Below.trans ?_ (Below.mono (by assumption) (by first | exact Nat.le_refl _ | (simp; done) | (simp; omega) | omega)))))⟩
        case measure => simp [intOf]; omega
      · obtain rfl : k = rs.length := by omega
        rw [List.take_length] at *
        go_wp2
        go_ret
        exact ⟨ret_i HF.out, hB1.trans (hB.mono hB1.size)⟩

end Go.Proofs.Ytmjdgplkcocgmaa
