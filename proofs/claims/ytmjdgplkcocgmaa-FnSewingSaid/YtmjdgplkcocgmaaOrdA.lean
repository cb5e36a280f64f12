/-
  Contracts over orders: sorted, strictly ascending.
-/
import Derived.Test.YtmjdgplkcocgmaaZPlain
import Derived.Test.YtmjdgplkcocgmaaSewB
set_option linter.unusedVariables false
namespace Go.Proofs.Ytmjdgplkcocgmaa
open Go.RowKit

theorem all_take_end {α : Type} {p : α → Bool} {l : List α} {n : Nat} (hn : l.length = n) (h : (l.take n).all p = true) : true = l.all p := by
  rw [List.take_of_length_le (by omega)] at h
  exact h.symm
theorem allWithin_any (A : Option Addr) (n c : Nat) (xs : List Int) (a b : Int) (W : World) (h : Rd W A n 1 xs intC) (hn : n ≤ 1048576) :
    Calls Try.prog 106 #[.slice A n c, .int .i64 a, .int .i64 b] W fun e w' => e = .returned (.bool (xs.all fun n => within n a b)) ∧ W = w' := by
  have HLEN := Lib.hid h.len
  go_enter Try.func106, Try.ntmps106
  go_wp2
  go_loop [11] (fun i => ∃ k : Nat, k ≤ n ∧ i = .int .i64 k ∧ Hid (((xs.take k).all fun n => within n a b) = true)) (fun i => n - (intOf i).toNat)
  case atStart => exact ⟨0, Nat.zero_le _, rfl, rfl⟩
  case round =>
    obtain ⟨k, hk, rfl, hall⟩ := hrel
    by_cases hlt : k < n
    · obtain ⟨b', off, x, rfl, hbW, hx, hc⟩ := h.int hlt (Below.refl _ _)
      have HX := Lib.hid hx
      clear hx
      rcases hw : within x a b with _ | _
      · have HN := Lib.hid (show false = xs.all fun n => within n a b from (all_no (p := fun n => within n a b) HX.out hw).symm)
        go_wp2_with (go_at_call 74; refine (within_any _ _ _ _).mono ?_; rintro e w' ⟨rfl, rfl⟩)
        go_ret
        exact ⟨ret_b HN.out, rfl⟩
      · have HN := Lib.hid (all_take_succ (p := fun n => within n a b) HX.out hall.out hw)
        go_wp2_with (go_at_call 74; refine (within_any _ _ _ _).mono ?_; rintro e w' ⟨rfl, rfl⟩)
        go_round
        case rel => exact ⟨k + 1, by omega, by go_num, HN.out⟩
        case measure => simp [intOf]; omega
    · go_wp2
      go_ret
      obtain rfl : k = n := by omega
      exact ⟨ret_b (all_take_end HLEN.out hall.out), rfl⟩

theorem strict_no {l : List Int} {a b : Int} {k : Nat} (hk : k < l.length) (h : ascAt l k = false) : false = strictL l a b := by
  unfold strictL
  rw [List.all_eq_false.2 ⟨k, List.mem_range.2 hk, by rw [h]; simp⟩]; rfl
theorem strict_end {l : List Int} {a b : Int} (h : ∀ k, k < l.length → ascAt l k = true) : (l.all fun n => within n a b) = strictL l a b := by
  unfold strictL
  rw [List.all_eq_true.2 fun k hk => h k (List.mem_range.1 hk)]; rfl
theorem isStrict_any (A : Option Addr) (n c : Nat) (xs : List Int) (a b : Int) (W : World) (h : Rd W A n 1 xs intC) (hn : n ≤ 1048576) :
    Calls Try.prog 97 #[.slice A n c, .int .i64 a, .int .i64 b] W fun e w' => e = .returned (.bool (strictL xs a b)) ∧ Below W.heap.size W w' := by
  have HLEN := Lib.hid h.len
  go_enter Try.func97, Try.ntmps97
  go_wp2
  go_loopw [10] (fun i wr => ∃ k : Nat, k ≤ n ∧ i = .int .i64 k ∧ Below W.heap.size W wr ∧ Hid (∀ j, j < k → ascAt xs j = true)) (fun i _ => n - (intOf i).toNat)
  case atStart => exact ⟨0, Nat.zero_le _, rfl, Below.refl _ _, fun j hj => absurd hj (by omega)⟩
  case round =>
    obtain ⟨k, hk, rfl, hB, hall⟩ := hrel
    by_cases hlt : k < n
    · obtain ⟨b', off, x, rfl, hbW, hx, hc⟩ := h.int hlt hB
      have HX := Lib.hid hx
      clear hx
      by_cases hk0 : k = 0
      · subst hk0
        have HN := Lib.hid (show ascAt xs 0 = true by unfold ascAt; rfl)
        go_wp2
        go_quiet (fail)
        go_wp2
        go_roundw
        case rel => exact ⟨1, by omega, by go_num, by (repeat (first | exact Below.refl _ _ | assumption | (refine Below.drew ?_) | (refine below_drewN ?_ _) | (refine Below.alloc ?_ (by first | exact Nat.le_refl _ | (simp; done) | (simp; omega) | omega) _) | (refine Below.setCell ?_ (by first | exact Nat.le_refl _ | (simp; done) | (simp; omega) | omega) _) | (refine Below.trans ?_ (Below.mono (by assumption) (by first | exact Nat.le_refl _ | (simp; done) | (simp; omega) | omega))))), fun j hj => by rw [show j = 0 by omega]; exact HN.out⟩
        case measure => simp [intOf]; omega
      · obtain ⟨q, rfl⟩ : ∃ q, k = q + 1 := ⟨k - 1, by omega⟩
        obtain ⟨b2, off2, y, ee, hbW2, hy, hcy⟩ := h.int (k := q) (by omega) hB
        obtain ⟨rfl, rfl⟩ : b' = b2 ∧ off = off2 := by injection ee with ee; injection ee with e1 e2; exact ⟨e1, e2⟩
        have HA := Lib.hid (show ascAt xs (q + 1) = decide (y < x) by
          unfold ascAt
          rw [decide_eq_false (by omega), Bool.false_or, List.getD_eq_getElem?_getD, List.getD_eq_getElem?_getD, HX.out, show q + 1 - 1 = q from rfl, hy]; rfl)
        clear hy ee
        by_cases hxy : y < x
        · have HN := Lib.hid (HA.out.trans (decide_eq_true hxy))
          have hle : ¬ x ≤ y := by omega
          go_wp2
          go_quiet (fail)
          go_wp2
          go_roundw
          case rel => exact ⟨q + 1 + 1, by omega, by go_num, by (repeat (first | exact Below.refl _ _ | assumption | (refine Below.drew ?_) | (refine below_drewN ?_ _) | (refine Below.alloc ?_ (by first | exact Nat.le_refl _ | (simp; done) | (simp; omega) | omega) _) | (refine Below.setCell ?_ (by first | exact Nat.le_refl _ | (simp; done) | (simp; omega) | omega) _) | (refine Below.trans ?_ (Below.mono (by assumption) (by first | exact Nat.le_refl _ | (simp; done) | (simp; omega) | omega))))), fun j hj => by
            by_cases e : j = q + 1
            · rw [e]; exact HN.out
            · exact hall.out j (by omega)⟩
          case measure => simp [intOf]; omega
        · have HN := Lib.hid (HA.out.trans (decide_eq_false hxy))
          have hle : x ≤ y := by omega
          have hql : q + 1 < xs.length := by rw [HLEN.out]; exact hlt
          have HQL := Lib.hid hql
          clear hxy hql
          go_wp2
          go_quiet (fail)
          go_wp2
          go_ret
          exact ⟨ret_b (strict_no HQL.out HN.out), by (repeat (first | exact Below.refl _ _ | assumption | (refine Below.drew ?_) | (refine below_drewN ?_ _) | (refine Below.alloc ?_ (by first | exact Nat.le_refl _ | (simp; done) | (simp; omega) | omega) _) | (refine Below.setCell ?_ (by first | exact Nat.le_refl _ | (simp; done) | (simp; omega) | omega) _) | (refine Below.trans ?_ (Below.mono (by assumption) (by first | exact Nat.le_refl _ | (simp; done) | (simp; omega) | omega)))))⟩
    · obtain rfl : k = n := by omega
      go_wp2_with (go_at_call 106; refine (allWithin_any _ _ _ xs _ _ _ (h.below hB) hn).mono ?_; rintro e w' ⟨rfl, rfl⟩)
      go_ret
      exact ⟨ret_b (strict_end fun j hj => hall.out j (by rw [HLEN.out] at hj; exact hj)), hB⟩

/-! ### put -/
def geAny (l : List Int) (x : Int) : Bool := l.any fun y => decide (x ≤ y)
theorem putI_no {l : List Int} {x : Int} (h : geAny l x = false) : putI l x = l ++ [x] := by
  induction l with
  | nil => rfl
  | cons y ys ih =>
    unfold geAny at h
    rw [List.any_cons, Bool.or_eq_false_iff] at h
    unfold putI
    rw [if_neg (by simpa using h.1), ih h.2]; rfl
theorem putI_done {l : List Int} {x y : Int} (h : geAny l x = true) : putI (l ++ [y]) x = putI l x ++ [y] := by
  induction l with
  | nil => simp [geAny] at h
  | cons z zs ih =>
    unfold geAny at h
    rw [List.any_cons, Bool.or_eq_true] at h
    rw [List.cons_append]
    unfold putI
    by_cases hz : x ≤ z
    · rw [if_pos hz, if_pos hz]; rfl
    · rw [if_neg hz, if_neg hz]
      rcases h with h | h
      · exact absurd (by simpa using h) hz
      · rw [ih h]; rfl
theorem putI_here {l : List Int} {x y : Int} (h : geAny l x = false) (hy : x ≤ y) : putI (l ++ [y]) x = l ++ [x] ++ [y] := by
  induction l with
  | nil => show putI [y] x = _; unfold putI; rw [if_pos hy]; rfl
  | cons z zs ih =>
    unfold geAny at h
    rw [List.any_cons, Bool.or_eq_false_iff] at h
    rw [List.cons_append]
    unfold putI
    rw [if_neg (by simpa using h.1), ih h.2]; rfl
theorem geAny_succ {l : List Int} {k : Nat} {x y : Int} (hy : l[k]? = some y) : geAny (l.take (k + 1)) x = (geAny (l.take k) x || decide (x ≤ y)) := by
  unfold geAny
  rw [List.take_add_one, hy, List.any_append]
  simp
/-- What has been built of the list with x put in, behind k elements. -/
def putUp (l : List Int) (x : Int) (k : Nat) : List Int := if geAny (l.take k) x then putI (l.take k) x else l.take k
theorem putUp_done {l : List Int} {x y : Int} {k : Nat} (hy : l[k]? = some y) (h : geAny (l.take k) x = true) : putUp l x (k + 1) = putUp l x k ++ [y] := by
  unfold putUp
  rw [geAny_succ hy, h, Bool.true_or, if_pos rfl, if_pos rfl, List.take_add_one, hy]
  exact putI_done h
theorem putUp_here {l : List Int} {x y : Int} {k : Nat} (hy : l[k]? = some y) (h : geAny (l.take k) x = false) (hxy : x ≤ y) : putUp l x (k + 1) = putUp l x k ++ [x] ++ [y] := by
  unfold putUp
  rw [geAny_succ hy, h, Bool.false_or, decide_eq_true hxy, if_pos rfl, if_neg (by simp), List.take_add_one, hy]
  exact putI_here h hxy
theorem putUp_not {l : List Int} {x y : Int} {k : Nat} (hy : l[k]? = some y) (h : geAny (l.take k) x = false) (hxy : ¬ x ≤ y) : putUp l x (k + 1) = putUp l x k ++ [y] := by
  unfold putUp
  rw [geAny_succ hy, h, Bool.false_or, decide_eq_false hxy, if_neg (by simp), if_neg (by simp), List.take_add_one, hy]; rfl
theorem putUp_len (l : List Int) (x : Int) (k : Nat) : (putUp l x k).length ≤ k + 1 := by
  unfold putUp
  split
  · rw [putI_len, List.length_take]; omega
  · rw [List.length_take]; omega

set_option maxHeartbeats 1000000 in
theorem put_any (A : Option Addr) (n c : Nat) (xs : List Int) (y : Int) (W : World) (h : Rd W A n 1 xs intC) (hn : n ≤ 1048576) :
    Calls Try.prog 107 #[.slice A n c, .int .i64 y] W (Made W (n + 1) 1 (putI xs y) intC) := by
  have HLEN := Lib.hid h.len
  go_enter Try.func107, Try.ntmps107
  go_wp2
  have hacc0 := Acc.lit0 W W.heap.size 3 1 intC (Nat.le_refl _) rfl
  go_loopw [5, 6, 12] (fun o dn i wr => ∃ k : Nat, k ≤ n ∧ i = .int .i64 k ∧ dn = .bool (geAny (xs.take k) y) ∧ Acc wr W.heap.size 3 1 o (putUp xs y k) intC ∧ Below W.heap.size W wr) (fun _ _ i _ => n - (intOf i).toNat)
  case atStart => exact ⟨0, Nat.zero_le _, rfl, rfl, hacc0, by (repeat (first | exact Below.refl _ _ | assumption | (refine Below.drew ?_) | (refine below_drewN ?_ _) | (refine Below.alloc ?_ (by first | exact Nat.le_refl _ | (simp; done) | (simp; omega) | omega) _) | (refine Below.setCell ?_ (by first | exact Nat.le_refl _ | (simp; done) | (simp; omega) | omega) _) | (refine Below.trans ?_ (Below.mono (by assumption) (by first | exact Nat.le_refl _ | (simp; done) | (simp; omega) | omega)))))⟩
  case round =>
    obtain ⟨k, hk, rfl, rfl, hacc, hB⟩ := hrel
    have hz := hB.size
    have hpl := putUp_len xs y k
    by_cases hlt : k < n
    · obtain ⟨b', off, x, rfl, hbW, hx, hc⟩ := h.int hlt hB
      have HX := Lib.hid hx
      clear hx
      rcases hg : geAny (xs.take k) y with _ | _
      · by_cases hxy : y ≤ x
        · have HP := Lib.hid (putUp_here HX.out hg hxy)
          have HG := Lib.hid (show geAny (xs.take (k + 1)) y = true by rw [geAny_succ HX.out, hg, decide_eq_true hxy]; rfl)
          go_wp2_with (first | (at_builtin; refine wpList_acc1 rfl _ _ 42 rfl W.heap.size 3 (.int .i64 0) 1 8 Try.underlying42 infoIntA rfl (by omega) _ (putUp xs y k) intC y rfl hacc _ _ rfl _ rfl (by simp) rfl (by simp [intC, Value.oneCell']) (by omega) (by omega) hz ?_; intro v1 w1 hacc1 hgrow1 hat1; have hB1 := hacc.grow_below hB hgrow1 (Nat.le_refl _) hz; have hz1 := hB1.size) | (at_builtin; refine wpList_acc1 rfl _ _ 42 rfl W.heap.size 3 (.int .i64 0) 1 8 Try.underlying42 infoIntA rfl (by omega) _ (putUp xs y k ++ [y]) intC x rfl hacc1 _ _ rfl _ rfl (by simp) rfl (by simp [intC, Value.oneCell']) (by simp; omega) (by omega) hz1 ?_; intro v2 w2 hacc2 hgrow2 hat2))
          go_roundw
          case rel => exact ⟨k + 1, by omega, by go_num, by rw [HG.out], by rw [HP.out]; exact hacc2, hacc1.grow_below hB1 hgrow2 (Nat.le_refl _) hz1⟩
          case measure => simp [intOf]; omega
        · have HP := Lib.hid (putUp_not HX.out hg hxy)
          have HG := Lib.hid (show geAny (xs.take (k + 1)) y = false by rw [geAny_succ HX.out, hg, decide_eq_false hxy]; rfl)
          go_wp2_with (at_builtin; refine wpList_acc1 rfl _ _ 42 rfl W.heap.size 3 (.int .i64 0) 1 8 Try.underlying42 infoIntA rfl (by omega) _ (putUp xs y k) intC x rfl hacc _ _ rfl _ rfl (by simp) rfl (by simp [intC, Value.oneCell']) (by omega) (by omega) hz ?_; intro v1 w1 hacc1 hgrow1 hat1)
          go_roundw
          case rel => exact ⟨k + 1, by omega, by go_num, by rw [HG.out], by rw [HP.out]; exact hacc1, hacc.grow_below hB hgrow1 (Nat.le_refl _) hz⟩
          case measure => simp [intOf]; omega
      · have HP := Lib.hid (putUp_done HX.out hg)
        have HG := Lib.hid (show geAny (xs.take (k + 1)) y = true by rw [geAny_succ HX.out, hg]; rfl)
        go_wp2_with (at_builtin; refine wpList_acc1 rfl _ _ 42 rfl W.heap.size 3 (.int .i64 0) 1 8 Try.underlying42 infoIntA rfl (by omega) _ (putUp xs y k) intC x rfl hacc _ _ rfl _ rfl (by simp) rfl (by simp [intC, Value.oneCell']) (by omega) (by omega) hz ?_; intro v1 w1 hacc1 hgrow1 hat1)
        go_roundw
        case rel => exact ⟨k + 1, by omega, by go_num, by rw [HG.out], by rw [HP.out]; exact hacc1, hacc.grow_below hB hgrow1 (Nat.le_refl _) hz⟩
        case measure => simp [intOf]; omega
    · obtain rfl : k = n := by omega
      have hxk : xs.take k = xs := List.take_of_length_le (Nat.le_of_eq HLEN.out)
      have hln : (putI xs y).length = k + 1 := by rw [putI_len, HLEN.out]
      rw [hxk]
      unfold putUp at hacc
      rw [hxk] at hacc
      rcases hg : geAny xs y with _ | _
      · rw [hg] at hacc
        have hacc : Acc wr W.heap.size 3 1 _ xs intC := hacc
        have HP := Lib.hid (putI_no hg)
        have hl2 := HLEN.out
        clear hxk
        go_wp2_with (at_builtin; refine wpList_acc1 rfl _ _ 42 rfl W.heap.size 3 (.int .i64 0) 1 8 Try.underlying42 infoIntA rfl (by omega) _ xs intC y rfl hacc _ _ rfl _ rfl (by simp) rfl (by simp [intC, Value.oneCell']) (by omega) (by omega) hz ?_; intro v1 w1 hacc1 hgrow1 hat1)
        go_ret
        rw [← HP.out] at hacc1
        exact hacc1.made intC_len (W := W) (Nat.le_refl _) (hacc.grow_below hB hgrow1 (Nat.le_refl _) hz) hln
      · rw [hg] at hacc
        have hacc : Acc wr W.heap.size 3 1 _ (putI xs y) intC := hacc
        clear hxk
        go_wp2
        go_ret
        exact hacc.made intC_len (W := W) (Nat.le_refl _) hB hln

/-- A list that can be read, made by the call. -/
def Gives (W : World) (n : Nat) (xs : List Int) (e : Ending) (w' : World) : Prop := ∃ A c, e = .returned (.slice A n c) ∧ n ≤ c ∧ Rd w' A n 1 xs intC ∧ Below W.heap.size W w'
theorem sorted_any (A : Option Addr) (n c : Nat) (xs : List Int) (W : World) (h : Rd W A n 1 xs intC) (hn : n ≤ 1048576) :
    Calls Try.prog 98 #[.slice A n c] W (Gives W n (sortI xs)) := by
  have HLEN := Lib.hid h.len
  go_enter Try.func98, Try.ntmps98
  go_wp2
  go_loopw [3, 9] (fun o i wr => ∃ (k : Nat) (A1 : Option Addr) (c1 : Nat), k ≤ n ∧ i = .int .i64 k ∧ o = .slice A1 k c1 ∧ k ≤ c1 ∧ Rd wr A1 k 1 (sortI (xs.take k)) intC ∧ Below W.heap.size W wr) (fun _ i _ => n - (intOf i).toNat)
  case atStart => exact ⟨0, _, 0, Nat.zero_le _, rfl, rfl, Nat.le_refl _, Rd.nil _ _ _ _, by (repeat (first | exact Below.refl _ _ | assumption | (refine Below.drew ?_) | (refine below_drewN ?_ _) | (refine Below.alloc ?_ (by first | exact Nat.le_refl _ | (simp; done) | (simp; omega) | omega) _) | (refine Below.setCell ?_ (by first | exact Nat.le_refl _ | (simp; done) | (simp; omega) | omega) _) | (refine Below.trans ?_ (Below.mono (by assumption) (by first | exact Nat.le_refl _ | (simp; done) | (simp; omega) | omega)))))⟩
  case round =>
    obtain ⟨k, A1, c1, hk, rfl, rfl, hc1, hR, hB⟩ := hrel
    by_cases hlt : k < n
    · obtain ⟨b', off, x, rfl, hbW, hx, hc⟩ := h.int hlt hB
      have HS := Lib.hid (sortI_succ hx)
      clear hx
      go_wp2_with (go_at_call 107; refine (put_any _ _ _ (sortI (xs.take k)) _ _ hR (by omega)).mono ?_; rintro e w1 ⟨A2, c2, rfl, hc2, hO2, hb2⟩; have hB2 : Below W.heap.size W w1 := hB.trans (hb2.mono hB.size))
      go_roundw
      case rel => exact ⟨k + 1, A2, c2, by omega, by go_num, rfl, hc2, by rw [HS.out]; exact hO2.rd, hB2⟩
      case measure => simp [intOf]; omega
    · obtain rfl : k = n := by omega
      rw [List.take_of_length_le (Nat.le_of_eq HLEN.out)] at hR
      go_wp2
      go_ret
      exact ⟨A1, c1, rfl, hc1, hR, hB⟩

end Go.Proofs.Ytmjdgplkcocgmaa
