/-
  Lists of lists of Bool: how the law file copies, compares, marks and asks them.
-/
import Derived.Test.YtjgjdchnjiaclaaFlatBool
import Derived.Test.YtjgjdchnjiaclaaSS
set_option linter.unusedVariables false
namespace Go.Proofs.Ytjgjdchnjiaclaa
open Go.RowKit

theorem szBoolSS_any (A : Option Addr) (n c : Nat) (rows : List (List Bool)) (l : Int) (w : World) (h : RdSS w A n rows boolC) (hl : -1 ≤ l) (hl2 : l ≤ 1048576) (hn : n ≤ 9223372036854775807) (hr : ∀ r ∈ rows, r.length ≤ 9223372036854775807) :
    Calls Try.prog 13 #[.slice A n c, .int .i64 l] w fun e w' => e = .returned (.int .i64 (szLeftSS l rows)) ∧ w = w' := by
  have hlen := h.len
  by_cases hd : l - (n : Int) < 0
  · have hX := Lib.hid (show -1 = szLeftSS l rows by unfold szLeftSS; rw [if_pos (by omega)])
    clear hlen
    go_enter Try.func13, Try.ntmps13
    go_wp2
    go_ret
    exact ⟨ret_i hX.out, rfl⟩
  · have HL := Lib.hid hlen
    clear hlen
    go_enter Try.func13, Try.ntmps13
    go_wp2
    go_loop [1, 5] (fun s i => ∃ k : Nat, ∃ t : Int, k ≤ n ∧ i = .int .i64 k ∧ s = .int .i64 t ∧ 0 ≤ t ∧ t ≤ l ∧ Hid (t = l - (n : Int) - (lens (rows.take k) : Int))) (fun _ i => n - (intOf i).toNat)
    case atStart => exact ⟨0, _, Nat.zero_le _, rfl, rfl, by omega, by omega, by simp [Hid, lens]⟩
    case round =>
      obtain ⟨k, t, hk, rfl, rfl, ht0, ht1, ht⟩ := hrel
      by_cases hlt : k < n
      · obtain ⟨b, off, A', n', c', r, rfl, hbW, hrk, hc, hnc, hrl, hR⟩ := h.at_ hlt (Below.refl _ _)
        have hn' : n' ≤ 9223372036854775807 := by rw [← hrl]; exact hr r (List.mem_of_getElem? hrk)
        have HR := Lib.hid hrk
        have HRL := Lib.hid hrl
        clear hrk hrl hr h
        rcases szLeft_cases t n' with ⟨h1, h2⟩ | ⟨h1, h2⟩
        · go_wp2_with (go_at_call 48; refine (szBoolS_any _ _ _ _ _ (by omega) (by omega) (by omega)).mono ?_; rintro e w' ⟨rfl, rfl⟩)
          go_ret
          refine ⟨ret_i ?_, rfl⟩
          have e1 := ht.out
          have e2 := lens_at HR.out
          have e3 := HRL.out
          have e4 := HL.out
          unfold szLeftSS
          rw [if_pos (by omega)]
        · go_wp2_with (go_at_call 48; refine (szBoolS_any _ _ _ _ _ (by omega) (by omega) (by omega)).mono ?_; rintro e w' ⟨rfl, rfl⟩)
          go_round
          case rel =>
            refine ⟨k + 1, _, by omega, by go_num, rfl, by omega, by omega, ?_⟩
            have e1 := ht.out
            have e3 := HRL.out
            show _ = _
            rw [lens_take_succ HR.out]
            omega
          case measure => simp [intOf]; omega
      · go_wp2
        go_ret
        refine ⟨ret_i ?_, rfl⟩
        have e1 := ht.out
        have e4 := HL.out
        rw [List.take_of_length_le (by omega)] at e1
        unfold szLeftSS
        rw [if_neg (by omega)]
        omega

theorem toBoolSS_any (A : Option Addr) (n c : Nat) (rows : List (List Bool)) (W : World) (h : RdSS W A n rows boolC) (hn : n ≤ 1048576) (hr : ∀ r ∈ rows, r.length ≤ 1048576) :
    Calls Try.prog 15 #[.slice A n c] W (MadeSS W n rows boolC) := by
  have hlen := Lib.hid h.len
  have hmk := mk_eq (P := Try.prog) 22 37 (.slice none 0 0) 1 24 Try.underlying22 (by kernel_rfl) n (by omega) (by omega)
  go_enter Try.func15, Try.ntmps15
  go_wp2
  clear hmk
  have hP0 := Part.made W (Value.cells (.slice none 0 0)) 37 n 1 ([] : List Hd) hdC
  rw [Nat.mul_one] at hP0
  obtain ⟨g, hg⟩ : ∃ g, Hid (g = W.heap.size) := ⟨_, rfl⟩
  rw [← hg.out] at hP0
  rw [show (Addr.mk W.heap.size 0 none) = Addr.mk g 0 none from by rw [hg.out]]
  go_loopw [4] (fun i wr => ∃ (k : Nat) (hs : List Hd), k ≤ n ∧ i = .int .i64 k ∧ Below W.heap.size W wr ∧ Part wr g 37 n 1 hs hdC k ∧ hs.length = k ∧ RowsP wr (g + 1) wr.heap.size hs (rows.take k) boolC) (fun i _ => n - (intOf i).toNat)
  case atStart => exact ⟨0, [], Nat.zero_le _, rfl, by (repeat (first | exact Below.refl _ _ | assumption | (refine Below.drew ?_) | (refine below_drewN ?_ _) | (refine Below.alloc ?_ (by first | exact Nat.le_refl _ | (simp; done) | (simp; omega) | omega) _) | (refine Below.setCell ?_ (by first | exact Nat.le_refl _ | (simp; done) | (simp; omega) | omega) _) | (refine Below.trans ?_ (Below.mono (by assumption) (by first | exact Nat.le_refl _ | (simp; done) | (simp; omega) | omega))))), hP0, rfl, RowsP.nil _ _ _ _⟩
  case round =>
    obtain ⟨k, hs, hk, rfl, hB, hP, hhl, hrows⟩ := hrel
    have hz := hB.size
    have hglt := hP.lt
    by_cases hlt : k < n
    · obtain ⟨b, off, A', n', c', r, rfl, hbW, hrk, hc, hnc, hrl, hR⟩ := h.at_ hlt hB
      have hn' : n' ≤ 1048576 := by rw [← hrl]; exact hr r (List.mem_of_getElem? hrk)
      have HR := Lib.hid hrk
      have HHL := Lib.hid hhl
      clear hrk hrl hhl
      obtain ⟨v0, hv0⟩ := hP.cell (o := k) (by omega)
      have hp0 : wr.frozen? ⟨g, k, none⟩ = false := hP.frozen _
      go_wp2_with fail
      refine (toBoolS_any A' n' c' r _ hR hn').mono ?_
      rintro e w1 ⟨A1, c1, rfl, hk1, hO1, hb1⟩
      obtain ⟨hc1, hf1⟩ := bcell hb1
      have hz1 := hb1.size
      have hy1 : g < w1.heap.size := by omega
      have hP1 := hP.below hb1
      have hr1 := hrows.below hb1
      have hB1 : Below W.heap.size W w1 := by (repeat (first | exact Below.refl _ _ | assumption | (refine Below.drew ?_) | (refine below_drewN ?_ _) | (refine Below.alloc ?_ (by first | exact Nat.le_refl _ | (simp; done) | (simp; omega) | omega) _) | (refine Below.setCell ?_ (by first | exact Nat.le_refl _ | (simp; done) | (simp; omega) | omega) _) | (refine Below.trans ?_ (Below.mono (by assumption) (by first | exact Nat.le_refl _ | (simp; done) | (simp; omega) | omega)))))
      go_wp2
      go_roundw
      case rel =>
        have hgW := hg.out
        have hb2 : Only g (g + 1) w1 (w1.setCell ⟨g, k, none⟩ (.slice A1 n' c1)) := ⟨rfl, rfl, rfl, by simp [World.setCell], fun j hj hd => Below.heap_setCell w1 ⟨g, k, none⟩ _ j (by show j ≠ g; omega)⟩
        have hP2 : Part w1 g 37 n 1 (hs ++ [⟨A1, n', c1⟩]) hdC k := by
          obtain ⟨cc, e1, e2, e3⟩ := hP1
          refine ⟨cc, e1, e2, fun i x j u hi hx hu => e3 i x j u hi ?_ hu⟩
          rw [List.getElem?_append_left (by have := HHL.out; omega)] at hx
          exact hx
        have hP3 := hP2.store (x := ⟨A1, n', c1⟩) (by rw [← HHL.out]; simp) hdC_len hlt
        simp only [hdC, setRow, Nat.mul_one] at hP3
        have hrows2 := RowsP.push (x := ⟨A1, n', c1⟩) hr1 hk1 hO1 (by omega) hz1
        have hrows3 := hrows2.off hb2 (hrows2.off_of (.inl (Nat.lt_succ_self _)))
        rw [show rows.take k ++ [r] = rows.take (k + 1) by rw [List.take_add_one, HR.out]; rfl] at hrows3
        exact ⟨k + 1, hs ++ [⟨A1, n', c1⟩], by omega, by go_num, hB1.setCell (p := ⟨g, k, none⟩) (by simp; omega) _, hP3, by simp [HHL.out], hrows3.mono (Nat.le_refl _) (by simp [World.setCell])⟩
      case measure => simp [intOf]; omega
    · go_wp2
      go_ret
      obtain rfl : k = n := by omega
      have hl := hlen.out
      rw [List.take_of_length_le (by omega)] at hrows
      have hgW := hg.out
      exact ⟨some ⟨g, 0, none⟩, k, rfl, Nat.le_refl _, ⟨hl, hs, ⟨hhl, fun _ => ⟨g, _, rfl, Nat.le_of_eq hg.out.symm, hP.lt, hP⟩⟩, hrows.mono (by omega) (Nat.le_refl _), fun a ha _ => by
        injection ha with ha
        subst ha
        exact hrows.off_of (.inl (Nat.lt_succ_self _))⟩, by (repeat (first | exact Below.refl _ _ | assumption | (refine Below.drew ?_) | (refine below_drewN ?_ _) | (refine Below.alloc ?_ (by first | exact Nat.le_refl _ | (simp; done) | (simp; omega) | omega) _) | (refine Below.setCell ?_ (by first | exact Nat.le_refl _ | (simp; done) | (simp; omega) | omega) _) | (refine Below.trans ?_ (Below.mono (by assumption) (by first | exact Nat.le_refl _ | (simp; done) | (simp; omega) | omega)))))⟩

theorem eqBoolSS_any (A B : Option Addr) (n c d : Nat) (rows : List (List Bool)) (W : World) (h : RdSS W A n rows boolC) (h' : RdSS W B n rows boolC) (hn : n ≤ 1048576) (hr : ∀ r ∈ rows, r.length ≤ 1048576) :
    Calls Try.prog 17 #[.slice A n c, .slice B n d] W fun e w' => e = .returned (.bool true) ∧ Below W.heap.size W w' := by
  go_enter Try.func17, Try.ntmps17
  go_wp2
  go_loopw [5] (fun i wr => ∃ k : Nat, k ≤ n ∧ i = .int .i64 k ∧ Below W.heap.size W wr) (fun i _ => n - (intOf i).toNat)
  case atStart => exact ⟨0, Nat.zero_le _, rfl, Below.refl _ _⟩
  case round =>
    obtain ⟨k, hk, rfl, hB⟩ := hrel
    have hz := hB.size
    by_cases hlt : k < n
    · obtain ⟨b, off, A1, n1, c1, r, rfl, hbW, hr1, e1, hnc, hrl, hR⟩ := h.at_ hlt hB
      obtain ⟨b', off', A2, n2, c2, r', rfl, hbW', hr2, e2, hnc', hrl', hR'⟩ := h'.at_ hlt hB
      obtain rfl : r = r' := by rw [hr1] at hr2; injection hr2
      obtain rfl : n1 = n2 := by rw [← hrl, ← hrl']
      have hn1 : n1 ≤ 1048576 := by rw [← hrl]; exact hr r (List.mem_of_getElem? hr1)
      clear hr1 hr2 hrl hrl' h h' hr
      go_wp2
      go_still_tail 8, (by kernel_rfl)
      have hB0 := hB.drew
      have hz0 := hB0.size
      have hR0 : Rd (World.drew wr) A1 n1 1 r boolC := hR
      have hR0' : Rd (World.drew wr) A2 n1 1 r boolC := hR'
      change wpList _ _ _ _ _ (World.drew wr)
      generalize World.drew wr = w0 at hB0 hz0 hR0 hR0' ⊢
      go_wp2_with fail
      refine (eqBoolS_any _ _ n1 _ _ r _ hR0 hR0' hn1).mono ?_
      rintro e w1 ⟨rfl, hb1⟩
      go_wp2_with fail
      go_roundw
      case rel => exact ⟨k + 1, by omega, by go_num, by (repeat (first | exact Below.refl _ _ | assumption | (refine Below.drew ?_) | (refine below_drewN ?_ _) | (refine Below.alloc ?_ (by first | exact Nat.le_refl _ | (simp; done) | (simp; omega) | omega) _) | (refine Below.setCell ?_ (by first | exact Nat.le_refl _ | (simp; done) | (simp; omega) | omega) _) | (refine Below.trans ?_ (Below.mono (by assumption) (by first | exact Nat.le_refl _ | (simp; done) | (simp; omega) | omega)))))⟩
      case measure => simp [intOf]; omega
    · go_wp2
      go_ret
      exact ⟨rfl, by (repeat (first | exact Below.refl _ _ | assumption | (refine Below.drew ?_) | (refine below_drewN ?_ _) | (refine Below.alloc ?_ (by first | exact Nat.le_refl _ | (simp; done) | (simp; omega) | omega) _) | (refine Below.setCell ?_ (by first | exact Nat.le_refl _ | (simp; done) | (simp; omega) | omega) _) | (refine Below.trans ?_ (Below.mono (by assumption) (by first | exact Nat.le_refl _ | (simp; done) | (simp; omega) | omega)))))⟩

def marksRowsBoolS (k : Int) : List Nat → List (List Bool)
  | [] => []
  | n :: ns => marksBoolS k n :: marksRowsBoolS (k + (n : Int)) ns
theorem marksRowsBoolS_len (k : Int) (ls : List Nat) : (marksRowsBoolS k ls).length = ls.length := by
  induction ls generalizing k with
  | nil => rfl
  | cons n ns ih => simp [marksRowsBoolS, ih]
theorem marksRowsBoolS_at (k : Int) (ls : List Nat) {i n : Nat} (h : ls[i]? = some n) : (marksRowsBoolS k ls)[i]? = some (marksBoolS (k + ((ls.take i).sum : Nat)) n) := by
  induction ls generalizing k i with
  | nil => simp at h
  | cons m ns ih =>
    cases i with
    | zero =>
      simp at h
      subst h
      simp [marksRowsBoolS]
    | succ i =>
      simp only [List.getElem?_cons_succ] at h
      simp only [marksRowsBoolS, List.getElem?_cons_succ, ih (k + (m : Int)) h, List.take_succ_cons, List.sum_cons]
      congr 2
      omega
theorem lens_marksRowsBoolS (k : Int) (ls : List Nat) : (marksRowsBoolS k ls).map List.length = ls := by
  induction ls generalizing k with
  | nil => rfl
  | cons n ns ih => simp [marksRowsBoolS, ih, marksBoolS_len]

theorem markBoolSS_any (A : Option Addr) (n c lo hi : Nat) (q : Int) (rows : List (List Bool)) (W : World) (h : OwnSS W lo hi A n rows boolC) (hn : n ≤ 4194304) (hl : lens rows ≤ 4194304) (hq : 0 ≤ q) (hq2 : q ≤ 900000000) :
    Calls Try.prog 20 #[.slice A n c, .int .i64 q] W fun e w' => e = .returned (.int .i64 (q + (lens rows : Int))) ∧ OwnSS w' lo hi A n (marksRowsBoolS q (rows.map List.length)) boolC ∧ Only lo hi W w' := by
  obtain ⟨hlen, hs, hO, hP, hoff⟩ := h
  have HLEN := Lib.hid hlen
  have hhl : hs.length = n := hO.len
  obtain ⟨M, hM⟩ : ∃ M, Hid (M = marksRowsBoolS q (rows.map List.length)) := ⟨_, rfl⟩
  have hMl : M.length = n := by rw [hM.out, marksRowsBoolS_len, List.length_map, hlen]
  have HML := Lib.hid hMl
  have HHL := Lib.hid hhl
  clear hlen hMl hhl
  go_enter Try.func20, Try.ntmps20
  go_wp2
  go_loopw [1, 5] (fun s i wr => ∃ (k p : Nat), k ≤ n ∧ i = .int .i64 k ∧ s = .int .i64 (q + (p : Int)) ∧ p ≤ 4194304 ∧ Hid (p = lens (rows.take k)) ∧ Own wr lo hi A n 1 hs hdC ∧ RowsP wr lo hi hs (mixed M rows k) boolC ∧ Only lo hi W wr) (fun _ i _ => n - (intOf i).toNat)
  case atStart => exact ⟨0, 0, Nat.zero_le _, rfl, by simp, by omega, by simp [Hid, lens], hO, by rw [mixed_zero]; exact hP, Only.refl _ _ _⟩
  case round =>
    obtain ⟨k, p, hk, rfl, rfl, hp, hpe, hOk, hPk, hon⟩ := hrel
    by_cases hlt : k < n
    · obtain ⟨b, off, x, rfl, hbW, hx, hc⟩ := hOk.rd.at1 (v := fun h : Hd => .slice h.A h.n h.c) hlt (Below.refl _ _)
      have hrk : rows[k]? = some (rows[k]'(by have := HLEN.out; omega)) := List.getElem?_eq_getElem _
      obtain ⟨r, hr⟩ : ∃ r, rows[k]? = some r := ⟨_, hrk⟩
      clear hrk
      have hmk : (mixed M rows k)[k]? = some r := by
        unfold mixed
        have h1 : (M.take k).length = k := by rw [List.length_take]; have := HML.out; omega
        rw [List.getElem?_append_right (by omega), h1, Nat.sub_self, List.getElem?_drop, Nat.add_zero]
        exact hr
      obtain ⟨hnc, hown⟩ := hPk.2.1 k x r hx hmk
      obtain ⟨l, u, hex, hloc, hzero⟩ := hown.exact
      have hrl : r.length = x.n := hown.len
      have hla := lens_at hr
      have hpl := hpe.out
      have hxn : x.n ≤ 4194304 := by omega
      have hp2 : p + x.n ≤ 4194304 := by omega
      have HR := Lib.hid hr
      have HX := Lib.hid hx
      have HRL := Lib.hid hrl
      have HLA := Lib.hid hla
      clear hr hx hrl hla hpl hmk hO hP hown
      obtain ⟨xA, xn, xc⟩ := x
      simp only at hc hex hloc hzero hxn hp2 hnc
      go_wp2_with fail
      refine (markBoolS_any xA xn xc l u (q + (p : Int)) r _ hex (by omega) (by omega) (by omega)).mono ?_
      rintro e w1 ⟨rfl, hM1, ho1⟩
      go_wp2_with fail
      go_roundw
      case rel =>
        have hMk : M[k]? = some (marksBoolS (q + (p : Int)) xn) := by
          rw [hM.out, marksRowsBoolS_at q _ (i := k) (n := xn) (by rw [List.getElem?_map, HR.out]; simp; exact HRL.out)]
          rw [hpe.out]
          unfold lens
          rw [List.map_take]
        have hP2 := hPk.set HX.out ho1 hloc (fun h => by have := hzero h; omega) hM1
        rw [mixed_succ hMk (by have := HLEN.out; omega)] at hP2
        refine ⟨k + 1, p + xn, by omega, by go_num, num_eq (by omega), hp2, ?_, hOk.only' ho1 (fun g hg _ => ?_), hP2, hon.trans ?_⟩
        · show _ = _
          rw [lens_take_succ HR.out, ← hpe.out, HRL.out]
        · injection hg with hg
          rcases Nat.eq_zero_or_pos xn with h0 | h0
          · have := hzero h0; omega
          · obtain ⟨g', T, e', _⟩ := hM1.2 h0
            have h4 := hloc _ e' h0
            have h5 := hoff _ rfl (by omega) k _ _ HX.out e' h0
            have h6 : b = g := by injection hg
            simp at h4 h5
            omega
        · rcases Nat.eq_zero_or_pos xn with h0 | h0
          · exact ho1.all (by have := hzero h0; omega)
          · obtain ⟨g', T, e', _⟩ := hM1.2 h0
            have h4 := hloc _ e' h0
            exact ho1.mono h4.2.2.1 h4.2.2.2
      case measure => simp [intOf]; omega
    · go_wp2
      go_ret
      obtain rfl : k = n := by omega
      have e1 := hpe.out
      have e2 := HLEN.out
      have e3 := HML.out
      rw [List.take_of_length_le (by omega)] at e1
      rw [mixed_end e3 e2, hM.out] at hPk
      exact ⟨ret_i (by omega), ⟨by rw [marksRowsBoolS_len, List.length_map]; exact e2, hs, hOk, hPk, hoff⟩, hon⟩

theorem heldBoolSS_any (A : Option Addr) (n c : Nat) (q : Int) (ls : List Nat) (W : World) (h : RdSS W A n (marksRowsBoolS q ls) boolC) (hn : n ≤ 4194304) (hl : ls.sum ≤ 4194304) (hq : 0 ≤ q) (hq2 : q ≤ 900000000) :
    Calls Try.prog 21 #[.slice A n c, .int .i64 q] W fun e w' => e = .returned (.int .i64 (q + ((ls.sum : Nat) : Int))) ∧ W = w' := by
  have hlen := h.len
  rw [marksRowsBoolS_len] at hlen
  have HLEN := Lib.hid hlen
  clear hlen
  go_enter Try.func21, Try.ntmps21
  go_wp2
  go_loop [1, 5] (fun s i => ∃ (k p : Nat), k ≤ n ∧ i = .int .i64 k ∧ s = .int .i64 (q + (p : Int)) ∧ p ≤ 4194304 ∧ Hid (p = (ls.take k).sum)) (fun _ i => n - (intOf i).toNat)
  case atStart => exact ⟨0, 0, Nat.zero_le _, rfl, by simp, by omega, by simp [Hid]⟩
  case round =>
    obtain ⟨k, p, hk, rfl, rfl, hp, hpe⟩ := hrel
    by_cases hlt : k < n
    · obtain ⟨b, off, A1, n1, c1, r, rfl, hbW, hr1, e1, hnc, hrl, hR⟩ := h.at_ hlt (Below.refl _ _)
      have hlk : ls[k]? = some (ls[k]'(by have := HLEN.out; omega)) := List.getElem?_eq_getElem _
      obtain ⟨m, hm⟩ : ∃ m, ls[k]? = some m := ⟨_, hlk⟩
      clear hlk
      have hat := marksRowsBoolS_at q ls hm
      rw [hr1] at hat
      injection hat with hat
      rw [← hpe.out] at hat
      have hmn : n1 = m := by rw [← hrl, hat, marksBoolS_len]
      subst hmn
      subst hat
      have hsum : (ls.take (k + 1)).sum = p + n1 := by rw [List.take_add_one, hm, List.sum_append, ← hpe.out]; simp
      have hle : (ls.take (k + 1)).sum ≤ ls.sum := by
        conv => rhs; rw [← List.take_append_drop (k + 1) ls]
        rw [List.sum_append]
        omega
      have hn1 : p + n1 ≤ 4194304 := by omega
      have HS := Lib.hid hsum
      clear hr1 hrl hm hsum hle h
      go_wp2_with fail
      refine (heldBoolS_any A1 n1 c1 (q + (p : Int)) _ hR (by omega) (by omega) (by omega)).mono ?_
      rintro e w' ⟨rfl, rfl⟩
      go_wp2_with fail
      go_round
      case rel => exact ⟨k + 1, p + n1, by omega, by go_num, num_eq (by omega), hn1, HS.out.symm⟩
      case measure => simp [intOf]; omega
    · go_wp2
      go_ret
      obtain rfl : k = n := by omega
      have e1 := hpe.out
      have e2 := HLEN.out
      rw [List.take_of_length_le (by omega)] at e1
      exact ⟨ret_i (by omega), rfl⟩

end Go.Proofs.Ytjgjdchnjiaclaa
