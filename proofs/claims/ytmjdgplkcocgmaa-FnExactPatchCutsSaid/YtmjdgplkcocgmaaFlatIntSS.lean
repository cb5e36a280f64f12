/-
  Lists of lists of Int: how the law file copies, compares, marks and asks them.
-/
import Derived.Test.YtmjdgplkcocgmaaFlatInt
import Derived.Test.YtmjdgplkcocgmaaSS
set_option linter.unusedVariables false
namespace Go.Proofs.Ytmjdgplkcocgmaa
open Go.RowKit

set_option maxRecDepth 100000 in
theorem eqIntSS_any (A B : Option Addr) (n c d : Nat) (rows : List (List Int)) (W : World) (h : RdSS W A n rows intC) (h' : RdSS W B n rows intC) (hn : n ≤ 1048576) (hr : ∀ r ∈ rows, r.length ≤ 1048576) :
    Calls Try.prog 19 #[.slice A n c, .slice B n d] W fun e w' => e = .returned (.bool true) ∧ Below W.heap.size W w' := by
  go_enter Try.func19, Try.ntmps19
  go_wp2
  go_loopw [5] (fun i wr => ∃ k : Nat, k ≤ n ∧ i = .int .i64 k ∧ Below W.heap.size W wr) (fun i _ => n - (intOf i).toNat)
  case atStart => exact ⟨0, Nat.zero_le _, rfl, Below.refl _ _⟩
  case round =>
    obtain ⟨k, hk, rfl, hB⟩ := hrel
    have hz := hB.size
    by_cases hlt : k < n
    · obtain ⟨b, off, A1, n1, c1, r, rfl, hbW, hr1, e1, hnc, hrl, hR⟩ := h.at_ hlt hB
      obtain ⟨b', off', A2, n2, c2, r', rfl, hbW', hr2, e2, hnc', hrl', hR'⟩ := h'.at_ hlt hB
      obtain rfl : r = r' := by rw [hr1] at hr2; injection hr2
      obtain rfl : n1 = n2 := by rw [← hrl, ← hrl']
      have hn1 : n1 ≤ 1048576 := by rw [← hrl]; exact hr r (List.mem_of_getElem? hr1)
      clear hr1 hr2 hrl hrl' h h' hr
      go_wp2
      go_still_tail 8, (by kernel_rfl)
      have hB0 := hB.drew
      have hz0 := hB0.size
      have hR0 : Rd (World.drew wr) A1 n1 1 r intC := hR
      have hR0' : Rd (World.drew wr) A2 n1 1 r intC := hR'
      change wpList _ _ _ _ _ (World.drew wr)
      generalize World.drew wr = w0 at hB0 hz0 hR0 hR0' ⊢
      go_wp2_with fail
      refine (eqIntS_any _ _ n1 _ _ r _ hR0 hR0' hn1).mono ?_
      rintro e w1 ⟨rfl, hb1⟩
      go_wp2_with fail
      go_roundw
      case rel => exact ⟨k + 1, by omega, by go_num, by (repeat (first | exact Below.refl _ _ | assumption | (refine Below.drew ?_) | (refine below_drewN ?_ _) | (refine Below.alloc ?_ (by first | exact Nat.le_refl _ | (simp; done) | (simp; omega) | omega) _) | (refine Below.setCell ?_ (by first | exact Nat.le_refl _ | (simp; done) | (simp; omega) | omega) _) | (refine Below.trans ?_ (Below.mono (by assumption) (by first | exact Nat.le_refl _ | (simp; done) | (simp; omega) | omega)))))⟩
      case measure => simp [intOf]; omega
    · go_wp2
      go_ret
      exact ⟨rfl, by (repeat (first | exact Below.refl _ _ | assumption | (refine Below.drew ?_) | (refine below_drewN ?_ _) | (refine Below.alloc ?_ (by first | exact Nat.le_refl _ | (simp; done) | (simp; omega) | omega) _) | (refine Below.setCell ?_ (by first | exact Nat.le_refl _ | (simp; done) | (simp; omega) | omega) _) | (refine Below.trans ?_ (Below.mono (by assumption) (by first | exact Nat.le_refl _ | (simp; done) | (simp; omega) | omega)))))⟩

def marksRowsIntS (k : Int) : List Nat → List (List Int)
  | [] => []
  | n :: ns => marksIntS k n :: marksRowsIntS (k + (n : Int)) ns
theorem marksRowsIntS_len (k : Int) (ls : List Nat) : (marksRowsIntS k ls).length = ls.length := by
  induction ls generalizing k with
  | nil => rfl
  | cons n ns ih => simp [marksRowsIntS, ih]
theorem marksRowsIntS_at (k : Int) (ls : List Nat) {i n : Nat} (h : ls[i]? = some n) : (marksRowsIntS k ls)[i]? = some (marksIntS (k + ((ls.take i).sum : Nat)) n) := by
  induction ls generalizing k i with
  | nil => simp at h
  | cons m ns ih =>
    cases i with
    | zero =>
      simp at h
      subst h
      simp [marksRowsIntS]
    | succ i =>
      simp only [List.getElem?_cons_succ] at h
      simp only [marksRowsIntS, List.getElem?_cons_succ, ih (k + (m : Int)) h, List.take_succ_cons, List.sum_cons]
      congr 2
      omega
theorem lens_marksRowsIntS (k : Int) (ls : List Nat) : (marksRowsIntS k ls).map List.length = ls := by
  induction ls generalizing k with
  | nil => rfl
  | cons n ns ih => simp [marksRowsIntS, ih, marksIntS_len]

set_option maxRecDepth 100000 in
theorem markIntSS_any (A : Option Addr) (n c lo hi : Nat) (q : Int) (rows : List (List Int)) (W : World) (h : OwnSS W lo hi A n rows intC) (hn : n ≤ 4194304) (hl : lens rows ≤ 4194304) (hq : 0 ≤ q) (hq2 : q ≤ 900000000) :
    Calls Try.prog 22 #[.slice A n c, .int .i64 q] W fun e w' => e = .returned (.int .i64 (q + (lens rows : Int))) ∧ OwnSS w' lo hi A n (marksRowsIntS q (rows.map List.length)) intC ∧ Only lo hi W w' := by
  obtain ⟨hlen, hs, hO, hP, hoff⟩ := h
  have HLEN := Lib.hid hlen
  have hhl : hs.length = n := hO.len
  obtain ⟨M, hM⟩ : ∃ M, Hid (M = marksRowsIntS q (rows.map List.length)) := ⟨_, rfl⟩
  have hMl : M.length = n := by rw [hM.out, marksRowsIntS_len, List.length_map, hlen]
  have HML := Lib.hid hMl
  have HHL := Lib.hid hhl
  clear hlen hMl hhl
  go_enter Try.func22, Try.ntmps22
  go_wp2
  go_loopw [1, 5] (fun s i wr => ∃ (k p : Nat), k ≤ n ∧ i = .int .i64 k ∧ s = .int .i64 (q + (p : Int)) ∧ p ≤ 4194304 ∧ Hid (p = lens (rows.take k)) ∧ Own wr lo hi A n 1 hs hdC ∧ RowsP wr lo hi hs (mixed M rows k) intC ∧ Only lo hi W wr) (fun _ i _ => n - (intOf i).toNat)
  case atStart => exact ⟨0, 0, Nat.zero_le _, rfl, by simp, by omega, by simp [Hid, lens], hO, by rw [mixed_zero]; exact hP, Only.refl _ _ _⟩
  case round =>
    obtain ⟨k, p, hk, rfl, rfl, hp, hpe, hOk, hPk, hon⟩ := hrel
    by_cases hlt : k < n
    · obtain ⟨b, off, x, rfl, hbW, hx, hc⟩ := hOk.rd.at1 (v := fun h : Hd => .slice h.A h.n h.c) hlt (Below.refl _ _)
      have hrk : rows[k]? = some (rows[k]'(by have := HLEN.out; omega)) := List.getElem?_eq_getElem _
      obtain ⟨r, hr⟩ : ∃ r, rows[k]? = some r := ⟨_, hrk⟩
      clear hrk
      have hmk : (mixed M rows k)[k]? = some r := by
        unfold mixed
        have h1 : (M.take k).length = k := by rw [List.length_take]; have := HML.out; omega
        rw [List.getElem?_append_right (by omega), h1, Nat.sub_self, List.getElem?_drop, Nat.add_zero]
        exact hr
      obtain ⟨hnc, hown⟩ := hPk.2.1 k x r hx hmk
      obtain ⟨l, u, hex, hloc, hzero⟩ := hown.exact
      have hrl : r.length = x.n := hown.len
      have hla := lens_at hr
      have hpl := hpe.out
      have hxn : x.n ≤ 4194304 := by omega
      have hp2 : p + x.n ≤ 4194304 := by omega
      have HR := Lib.hid hr
      have HX := Lib.hid hx
      have HRL := Lib.hid hrl
      have HLA := Lib.hid hla
      clear hr hx hrl hla hpl hmk hO hP hown
      obtain ⟨xA, xn, xc⟩ := x
      simp only at hc hex hloc hzero hxn hp2 hnc
      go_wp2_with fail
      refine (markIntS_any xA xn xc l u (q + (p : Int)) r _ hex (by omega) (by omega) (by omega)).mono ?_
      rintro e w1 ⟨rfl, hM1, ho1⟩
      go_wp2_with fail
      go_roundw
      case rel =>
        have hMk : M[k]? = some (marksIntS (q + (p : Int)) xn) := by
          rw [hM.out, marksRowsIntS_at q _ (i := k) (n := xn) (by rw [List.getElem?_map, HR.out]; simp; exact HRL.out)]
          rw [hpe.out]
          unfold lens
          rw [List.map_take]
        have hP2 := hPk.set HX.out ho1 hloc (fun h => by have := hzero h; omega) hM1
        rw [mixed_succ hMk (by have := HLEN.out; omega)] at hP2
        refine ⟨k + 1, p + xn, by omega, by go_num, num_eq (by omega), hp2, ?_, hOk.only' ho1 (fun g hg _ => ?_), hP2, hon.trans ?_⟩
        · show _ = _
          rw [lens_take_succ HR.out, ← hpe.out, HRL.out]
        · injection hg with hg
          rcases Nat.eq_zero_or_pos xn with h0 | h0
          · have := hzero h0; omega
          · obtain ⟨g', T, e', _⟩ := hM1.2 h0
            have h4 := hloc _ e' h0
            have h5 := hoff _ rfl (by omega) k _ _ HX.out e' h0
            have h6 : b = g := by injection hg
            simp at h4 h5
            omega
        · rcases Nat.eq_zero_or_pos xn with h0 | h0
          · exact ho1.all (by have := hzero h0; omega)
          · obtain ⟨g', T, e', _⟩ := hM1.2 h0
            have h4 := hloc _ e' h0
            exact ho1.mono h4.2.2.1 h4.2.2.2
      case measure => simp [intOf]; omega
    · go_wp2
      go_ret
      obtain rfl : k = n := by omega
      have e1 := hpe.out
      have e2 := HLEN.out
      have e3 := HML.out
      rw [List.take_of_length_le (by omega)] at e1
      rw [mixed_end e3 e2, hM.out] at hPk
      exact ⟨ret_i (by omega), ⟨by rw [marksRowsIntS_len, List.length_map]; exact e2, hs, hOk, hPk, hoff⟩, hon⟩

set_option maxRecDepth 100000 in
theorem heldIntSS_any (A : Option Addr) (n c : Nat) (q : Int) (ls : List Nat) (W : World) (h : RdSS W A n (marksRowsIntS q ls) intC) (hn : n ≤ 4194304) (hl : ls.sum ≤ 4194304) (hq : 0 ≤ q) (hq2 : q ≤ 900000000) :
    Calls Try.prog 23 #[.slice A n c, .int .i64 q] W fun e w' => e = .returned (.int .i64 (q + ((ls.sum : Nat) : Int))) ∧ W = w' := by
  have hlen := h.len
  rw [marksRowsIntS_len] at hlen
  have HLEN := Lib.hid hlen
  clear hlen
  go_enter Try.func23, Try.ntmps23
  go_wp2
  go_loop [1, 5] (fun s i => ∃ (k p : Nat), k ≤ n ∧ i = .int .i64 k ∧ s = .int .i64 (q + (p : Int)) ∧ p ≤ 4194304 ∧ Hid (p = (ls.take k).sum)) (fun _ i => n - (intOf i).toNat)
  case atStart => exact ⟨0, 0, Nat.zero_le _, rfl, by simp, by omega, by simp [Hid]⟩
  case round =>
    obtain ⟨k, p, hk, rfl, rfl, hp, hpe⟩ := hrel
    by_cases hlt : k < n
    · obtain ⟨b, off, A1, n1, c1, r, rfl, hbW, hr1, e1, hnc, hrl, hR⟩ := h.at_ hlt (Below.refl _ _)
      have hlk : ls[k]? = some (ls[k]'(by have := HLEN.out; omega)) := List.getElem?_eq_getElem _
      obtain ⟨m, hm⟩ : ∃ m, ls[k]? = some m := ⟨_, hlk⟩
      clear hlk
      have hat := marksRowsIntS_at q ls hm
      rw [hr1] at hat
      injection hat with hat
      rw [← hpe.out] at hat
      have hmn : n1 = m := by rw [← hrl, hat, marksIntS_len]
      subst hmn
      subst hat
      have hsum : (ls.take (k + 1)).sum = p + n1 := by rw [List.take_add_one, hm, List.sum_append, ← hpe.out]; simp
      have hle : (ls.take (k + 1)).sum ≤ ls.sum := by
        conv => rhs; rw [← List.take_append_drop (k + 1) ls]
        rw [List.sum_append]
        omega
      have hn1 : p + n1 ≤ 4194304 := by omega
      have HS := Lib.hid hsum
      clear hr1 hrl hm hsum hle h
      go_wp2_with fail
      refine (heldIntS_any A1 n1 c1 (q + (p : Int)) _ hR (by omega) (by omega) (by omega)).mono ?_
      rintro e w' ⟨rfl, rfl⟩
      go_wp2_with fail
      go_round
      case rel => exact ⟨k + 1, p + n1, by omega, by go_num, num_eq (by omega), hn1, HS.out.symm⟩
      case measure => simp [intOf]; omega
    · go_wp2
      go_ret
      obtain rfl : k = n := by omega
      have e1 := hpe.out
      have e2 := HLEN.out
      rw [List.take_of_length_le (by omega)] at e1
      exact ⟨ret_i (by omega), rfl⟩

end Go.Proofs.Ytmjdgplkcocgmaa
