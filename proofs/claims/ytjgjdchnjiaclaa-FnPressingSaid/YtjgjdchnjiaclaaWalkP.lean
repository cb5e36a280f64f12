/-
  The walk of the law: rows that alternate never clash, and the fewest flips reach such rows.
-/
import Derived.Test.YtjgjdchnjiaclaaDrawP
import Derived.Test.YtjgjdchnjiaclaaPressC
import Derived.Test.YtjgjdchnjiaclaaPressD
set_option linter.unusedVariables false
namespace Go.Proofs.Ytjgjdchnjiaclaa
open Go.RowKit

theorem rows_small {rows : List (List Bool)} (h : pressingOk rows = true) : ∀ r ∈ rows, r.length ≤ 11 := fun r hr => by
  obtain ⟨_, h3, h4⟩ := pressing_parts h
  obtain ⟨i, hi⟩ := List.getElem?_of_mem hr
  have := h4 i r hi
  omega
theorem btoi_q (b : Bool) (W : World) : Calls Try.prog 31 #[.bool b] W fun e w' => e = .returned (.int .i64 (if b = true then 1 else 0)) ∧ w' = W := (btoi_any b W).mono fun _ _ h => ⟨h.1, h.2.symm⟩
/-- what the inner loop of the law adds up -/
def oneUp (rows : List (List Bool)) (i s : Nat) : Nat := oneOf rows i + cnt (fun j => !flipBit rows j i) s
theorem oneUp_end {rows : List (List Bool)} {i m : Nat} (h : head0 rows = m) : oneUp rows i m = oneOf rows (i + 1) := by
  unfold oneUp oneOf
  rw [← h]; rfl
theorem oneUp_succ (rows : List (List Bool)) (i s : Nat) : oneUp rows i (s + 1) = oneUp rows i s + (if (!flipBit rows s i) = true then 1 else 0) := by
  unfold oneUp
  show _ + (cnt _ s + _) = _
  rw [Nat.add_assoc]
theorem oneUp_le (rows : List (List Bool)) (i s : Nat) (h : s ≤ head0 rows) : oneUp rows i s ≤ (i + 1) * head0 rows := by
  unfold oneUp
  have h1 := one_le rows i
  have h2 := cnt_le (fun j => !flipBit rows j i) s
  rw [Nat.add_mul]
  omega

set_option maxRecDepth 100000 in
set_option maxHeartbeats 4000000 in
theorem walk_FnPressing (A0 : Option Addr) (n0 c0 : Nat) (xs0 : List UInt8) (W : World) (hk0_ : n0 ≤ c0) (hm0_ : c0 ≤ maxLen) (hR0 : Rd W A0 n0 1 xs0 byteC) :
    Calls Try.prog 8 #[.slice A0 n0 c0] W fun e w' => e = .returned (.bool true) ∧ Below W.heap.size W w' := by
  have hn63 : n0 ≤ 9223372036854775807 := by unfold maxLen at hm0_; omega
  rcases Nat.lt_or_ge 1048576 n0 with hn0 | hn0
  · have hbig : decide ((1048576 : Int) < n0) = true := by simpa using (by omega : (1048576 : Int) < n0)
    go_enter Try.func8, Try.ntmps8
    go_wp2_with fail
    refine (big_any A0 n0 c0 _ hn63).mono ?_
    rintro e w' ⟨rfl, rfl⟩
    go_wp2_with fail
    go_ret
    exact ⟨rfl, by (repeat (first | exact Below.refl _ _ | assumption | (refine Below.drew ?_) | (refine below_drewN ?_ _) | (refine Below.alloc ?_ (by first | exact Nat.le_refl _ | (simp; done) | (simp; omega) | omega) _) | (refine Below.setCell ?_ (by first | exact Nat.le_refl _ | (simp; done) | (simp; omega) | omega) _) | (refine Below.trans ?_ (Below.mono (by assumption) (by first | exact Nat.le_refl _ | (simp; done) | (simp; omega) | omega)))))⟩
  · have hbig : decide ((1048576 : Int) < n0) = false := by simpa using (by omega : ¬ (1048576 : Int) < n0)
    go_enter Try.func8, Try.ntmps8
    go_wp2_with fail
    refine (big_any A0 n0 c0 _ hn63).mono ?_
    rintro e w' ⟨rfl, rfl⟩
    go_wp2_with fail
    refine (drawPressing_any A0 n0 c0 xs0 _ hR0 hn0).mono ?_
    rintro e w1 ⟨A1, n, c1, p, rfl, hc1, hn1, hn6, hR1, hV, hH5, hb1⟩
    have hz1 := hb1.size
    have hsm := rows_small hV
    have hs63 : ∀ r ∈ p, r.length ≤ 9223372036854775807 := fun r hr => by have := hsm r hr; omega
    have hs20 : ∀ r ∈ p, r.length ≤ 1048576 := fun r hr => by have := hsm r hr; omega
    have hnb : n ≤ 1048576 := by omega
    have hPL : p.length = n := hR1.len
    obtain ⟨m, hm⟩ : ∃ m, head0 p = m := ⟨_, rfl⟩
    have hm5 : m ≤ 5 := by omega
    clear hsm
    go_wp2_with fail
    refine (clashesI_any A1 n c1 p _ hR1 hnb hs63).mono ?_
    rintro e w2 ⟨rfl, hb2⟩
    have hR2 := hR1.below hb2
    have hB2 : Below W.heap.size W w2 := hb1.trans (hb2.mono hz1)
    go_wp2_with fail
    refine (flipsI_any A1 n c1 p _ hR2 hnb hs63).mono ?_
    rintro e w3 ⟨rfl, hb3⟩
    have hR3 := hR2.below hb3
    have hB3 : Below W.heap.size W w3 := hB2.trans (hb3.mono hB2.size)
    go_wp2_with fail
    refine (at_any A0 n0 c0 xs0 0 _ (hR0.below hB3) hn0 (by omega) (by omega)).mono ?_
    rintro e w' ⟨x, rfl, hx0, hx1, rfl⟩
    have hnn : (n : Int) ≠ 0 := by omega
    have hmod0 := Int.emod_nonneg x hnn
    have hmod1 := Int.emod_lt_of_pos x (show 0 < (n : Int) by omega)
    go_wp2_with fail
    obtain ⟨kz, hkz⟩ : ∃ kz, Hid (kz = x % (n : Int)) := ⟨_, rfl⟩
    rw [← hkz.out] at hmod0 hmod1
    rw [← hkz.out]
    obtain ⟨k, rfl⟩ := Int.eq_ofNat_of_zero_le hmod0
    have hkn : k < n := by omega
    clear hmod0 hmod1 hx0 hx1
    refine (flipI_any A1 n c1 p (k : Int) _ hR3 hnb hs20).mono ?_
    rintro e w4 ⟨A4, c4, rfl, hc4, hO4, hb4⟩
    have hkp : k < p.length := by rw [hPL]; exact hkn
    have hok := flip_ok hV hkp
    obtain ⟨hqV, hqH⟩ := flip_valid hV hkp
    have hback := flip_back hV hkp
    have hqL := flipRow_len p (k : Int)
    have hturn := turned_clashes hV hkp
    obtain ⟨q, hq⟩ : ∃ q, Hid (q = flipRow p (k : Int)) := ⟨_, rfl⟩
    rw [← hq.out] at hqV hqH hback hqL hturn hO4
    have hok2 := flip_ok hqV (k := k) (by omega)
    rw [hok]
    have hR4 := hR3.below hb4
    have hQ4 := hO4.rd
    have hB4 : Below W.heap.size W w4 := hB3.trans (hb4.mono hB3.size)
    have hq20 : ∀ r ∈ q, r.length ≤ 1048576 := fun r hr => by have := rows_small hqV r hr; omega
    have hq63 : ∀ r ∈ q, r.length ≤ 9223372036854775807 := fun r hr => by have := rows_small hqV r hr; omega
    rw [hm] at hqH
    clear hO4 hb4 hok hqL hkp
    go_wp2_with fail
    refine (flipI_any A4 n c4 q (k : Int) _ hQ4 hnb hq20).mono ?_
    rintro e w5 ⟨A5, c5, rfl, hc5, hO5, hb5⟩
    rw [hback] at hO5
    rw [hok2]
    have hR5 := hR4.below hb5
    have hQ5 := hQ4.below hb5
    have hP5 := hO5.rd
    have hB5 : Below W.heap.size W w5 := hB4.trans (hb5.mono hB4.size)
    obtain ⟨b, off, A9, c9, rfl, hc0⟩ := hR5.head_at hV hm (i := 0) (by omega) (Below.refl _ _)
    rw [Nat.add_zero] at hc0
    have hpos : (0 : Int) < (n : Int) := by omega
    clear hO5 hb5 hok2 hback
    go_wp2_with fail
    refine (nestedI_any _ _ true w5).mono ?_
    rintro e w6 ⟨A6, c6, rfl, hc6, hO6, hb6⟩
    rw [nest_len hn1 (by omega) (by omega) true] at hc6 hO6 ⊢
    have hR6 := hR5.below hb6
    have hQ6 := hQ5.below hb6
    have hP6 := hP5.below hb6
    have ha6 := hO6.rd
    have hB6 : Below W.heap.size W w6 := hB5.trans (hb6.mono hB5.size)
    clear hO6 hb6 hR1 hR2 hR3 hR4 hR5 hQ4 hQ5 hP5 hB2 hB3 hB4 hB5 hb1 hb2 hb3 hc0
    go_wp2_with fail
    refine (nestedI_any _ _ false w6).mono ?_
    rintro e w7 ⟨A7, c7, rfl, hc7, hO7, hb7⟩
    rw [nest_len hn1 (by omega) (by omega) false] at hc7 hO7 ⊢
    have hR7 := hR6.below hb7
    have hQ7 := hQ6.below hb7
    have hP7 := hP6.below hb7
    have ha7 := ha6.below hb7
    have hb7' := hO7.rd
    have hB7 : Below W.heap.size W w7 := hB6.trans (hb7.mono hB6.size)
    clear hO7 hb7 hR6 hQ6 hP6 ha6 hB6
    have hC0 := clashes_nonneg hV
    have hCle := clashes_le (rows := p)
    have hMle := clashes_le (rows := q)
    have hM0 := clashes_nonneg hqV
    have hF := flips_half hV
    have hF1 := flips_one hV
    have hiff := none_iff hV
    rw [hPL, hm] at hF hF1 hturn
    have hnm : 0 ≤ (n : Int) * (m : Int) ∧ (n : Int) * (m : Int) ≤ 6 * 5 := ⟨Int.mul_nonneg (by omega) (by omega), Int.mul_le_mul (by omega) (by omega) (by omega) (by omega)⟩
    have hnm2 : 0 ≤ (n : Int) * (m : Int) ∧ (n : Int) * (m : Int) ≤ 30 := by omega
    have hone := one_le p n
    rw [hm] at hone
    have hone2 : ((oneOf p n : Nat) : Int) ≤ 30 := by
      have h1 : n * m ≤ 6 * 5 := Nat.mul_le_mul hn6 hm5
      omega
    obtain ⟨C, hC⟩ : ∃ C, Hid (C = clashesOf p) := ⟨_, rfl⟩
    obtain ⟨F, hFF⟩ : ∃ F, Hid (F = fewestFlips p) := ⟨_, rfl⟩
    rw [← hC.out] at hC0 hCle hturn hiff ⊢
    rw [← hFF.out] at hF hF1 hiff ⊢
    have hcf : (C == 0) = (F == 0) := by rw [Bool.eq_iff_iff, beq_iff_eq, beq_iff_eq]; exact hiff
    have hF0 : ¬ F < 0 := by omega
    have hCn : ¬ C < 0 := by omega
    have hva := nest_valid (n := n) (m := m) hn1 (by omega) (by omega) true
    have hvb := nest_valid (n := n) (m := m) hn1 (by omega) (by omega) false
    have hna63 : ∀ r ∈ nested (n : Int) (m : Int) true, r.length ≤ 9223372036854775807 := fun r hr => by have := rows_small hva.1 r hr; omega
    have hnb63 : ∀ r ∈ nested (n : Int) (m : Int) false, r.length ≤ 9223372036854775807 := fun r hr => by have := rows_small hvb.1 r hr; omega
    have HIFF := Lib.hid hiff
    have HF1 := Lib.hid hF1
    have HTURN := Lib.hid hturn
    clear hnm hiff hF1 hturn hone
    go_wp2_with fail
    refine (clashesI_any A6 n c6 _ _ ha7 hnb hna63).mono ?_
    rintro e w8 ⟨rfl, hb8⟩
    rw [nest_clashes hn1 (by omega) (by omega) true]
    have hb7b := hb7'.below hb8
    go_wp2_with fail
    refine (clashesI_any A7 n c7 _ _ hb7b hnb hnb63).mono ?_
    rintro e w9 ⟨rfl, hb9⟩
    rw [nest_clashes hn1 (by omega) (by omega) false]
    have hb9b := hb7b.below hb9
    go_wp2_with fail
    refine (flipsI_any A7 n c7 _ _ hb9b hnb hnb63).mono ?_
    rintro e w10 ⟨rfl, hb10⟩
    rw [nest_flips hn1 (by omega) (by omega)]
    have hB8 : Below W.heap.size W w8 := hB7.trans (hb8.mono hB7.size)
    have hB9 : Below W.heap.size W w9 := hB8.trans (hb9.mono hB8.size)
    have hB10 : Below W.heap.size W w10 := hB9.trans (hb10.mono hB9.size)
    have hR10 := ((hR7.below hb8).below hb9).below hb10
    have hQ10 := ((hQ7.below hb8).below hb9).below hb10
    have hP10 := ((hP7.below hb8).below hb9).below hb10
    have ha10 := ((ha7.below hb8).below hb9).below hb10
    have hb10' := hb9b.below hb10
    have HNA := Lib.hid (fun i j (hi : i < n) (hj : j < m) => nest_bit hn1 (show n ≤ 12 by omega) (show m ≤ 11 by omega) true hi hj)
    have HNB := Lib.hid (fun i j (hi : i < n) (hj : j < m) => nest_bit hn1 (show n ≤ 12 by omega) (show m ≤ 11 by omega) false hi hj)
    clear hb8 hb9 hb10 hb7b hb9b hR7 hQ7 hP7 ha7 hb7' hB7 hB8 hB9 hna63 hnb63
    go_wp2_with fail
    go_loopw [14, 15] (fun o i wr => ∃ k : Nat, k ≤ n ∧ i = .int .i64 (k : Int) ∧ o = .int .i64 ((oneOf p k : Nat) : Int) ∧ Below w10.heap.size w10 wr) (fun _ i _ => n - (intOf i).toNat)
    case atStart => exact ⟨0, Nat.zero_le _, rfl, rfl, Below.refl _ _⟩
    case round =>
      obtain ⟨i, hi, rfl, rfl, hB⟩ := hrel
      by_cases hlt : i < n
      · obtain ⟨ba, oa, Aa, ca, rfl, hca⟩ := ha10.head_at hva.1 hva.2 hlt hB
        obtain ⟨br, or', Ar, cr, rfl, hcr⟩ := hP10.head_at hV hm hlt hB
        go_wp2_with fail
        go_loopw [14, 16] (fun o j wr => ∃ s : Nat, s ≤ m ∧ j = .int .i64 (s : Int) ∧ o = .int .i64 ((oneUp p i s : Nat) : Int) ∧ Below w10.heap.size w10 wr) (fun _ j _ => m - (intOf j).toNat)
        case atStart => exact ⟨0, Nat.zero_le _, rfl, rfl, hB⟩
        case round =>
          clear hca hcr hB
          obtain ⟨s, hs, rfl, rfl, hB⟩ := hrel
          by_cases hls : s < m
          · obtain ⟨b1, o1, b2, o2, c2', e1, hp1, hp2⟩ := hR10.bit_at hV hm hlt hls hB
            obtain ⟨b3, o3, b4, o4, c4', e3, hp3, hp4⟩ := ha10.bit_at hva.1 hva.2 hlt hls hB
            obtain ⟨b5, o5, b6, o6, c6', e5, hp5, hp6⟩ := hP10.bit_at hV hm hlt hls hB
            obtain ⟨b7, o7, b8, o8, c8', e7, hp7, hp8⟩ := hb10'.bit_at hvb.1 hvb.2 hlt hls hB
            injection e1 with e1; injection e1 with e1 e1'; subst e1 e1'
            injection e3 with e3; injection e3 with e3 e3'; subst e3 e3'
            injection e5 with e5; injection e5 with e5 e5'; subst e5 e5'
            subst e7
            rw [HNA.out i s hlt hls] at hp4
            rw [HNB.out i s hlt hls] at hp8
            have hfb : flipBit p s i = (bit p i s == (i % 2 == 0)) := rfl
            have hsu := oneUp_succ p i s
            have hle := oneUp_le p i s (by omega)
            have hle2 : oneUp p i s ≤ 30 := by
              have h1 : (i + 1) * m ≤ 6 * 5 := Nat.mul_le_mul (by omega) hm5
              rw [hm] at hle
              omega
            rw [hfb] at hsu
            have hii : (i : Int) < (n : Int) := by omega
            have hss : (s : Int) < (m : Int) := by omega
            generalize bit p i s = pb at hp2 hp6 hsu
            generalize (i % 2 == 0) = par at hp4 hp8 hsu
            obtain ⟨o, ho⟩ : ∃ o, Hid (o = oneUp p i s) := ⟨_, rfl⟩
            rw [← ho.out] at hle2 hsu ⊢
            have HSU := Lib.hid hsu
            clear hle hsu hfb
            have hw1 : IntKind.i64.wrap ((o : Int) + 1) = (o : Int) + 1 := by rw [IntKind.wrap_i64]; omega
            have hw2 : IntKind.i64.wrap (o : Int) = (o : Int) := by rw [IntKind.wrap_i64]; omega
            cases pb <;> cases par
            all_goals
              go_wp2_with fail
              go_quiet ((go_at_call 31; exact Calls.quiet_of_same (btoi_q _ _)))
              go_wp2_with fail
              go_quiet (fail)
              clear hw1 hw2
              go_wp2_with fail
              go_roundw
              case rel => exact ⟨s + 1, by omega, by go_num, by rw [HSU.out]; simp, by (repeat (first | exact Below.refl _ _ | assumption | (refine Below.drew ?_) | (refine below_drewN ?_ _) | (refine Below.alloc ?_ (by first | exact Nat.le_refl _ | (simp; done) | (simp; omega) | omega) _) | (refine Below.setCell ?_ (by first | exact Nat.le_refl _ | (simp; done) | (simp; omega) | omega) _) | (refine Below.trans ?_ (Below.mono (by assumption) (by first | exact Nat.le_refl _ | (simp; done) | (simp; omega) | omega)))))⟩
              case measure => simp [intOf]; omega
          · obtain rfl : s = m := by omega
            have HE := Lib.hid (oneUp_end (i := i) hm)
            go_wp2
            go_roundw
            case rel => exact ⟨i + 1, by omega, by go_num, by rw [HE.out], hB⟩
            case measure => simp [intOf]; omega
      · obtain rfl : i = n := by omega
        have HT := HTURN.out
        obtain ⟨hFa, hFb⟩ := HF1.out
        by_cases ck : 0 < k <;> by_cases cn : k + 1 < i
        · rw [if_pos ck, if_pos cn] at HT
          have hck : (0 : Int) < (k : Int) := by omega
          have hcn : (k : Int) + 1 < (i : Int) := by omega
          go_wp2_with fail
          refine (clashesI_any A4 i c4 q _ (hQ10.below hB) hnb hq63).mono ?_
          rintro e w11 ⟨rfl, hb11⟩
          have hBB := hB.trans (hb11.mono hB.size)
          generalize clashesOf q = M at HT hMle hM0 ⊢
          have hRR := hR10.below hBB
          go_wp2_with (go_at_call 16; refine (pressingOkI_any _ _ _ p _ hRR hnb hs63).mono ?_; rintro e w' ⟨rfl, rfl⟩; rw [hV])
          go_ret
          exact ⟨rfl, hB10.trans (hBB.mono hB10.size)⟩
        · rw [if_pos ck, if_neg cn] at HT
          have hck : (0 : Int) < (k : Int) := by omega
          have hcn : ¬ (k : Int) + 1 < (i : Int) := by omega
          go_wp2_with fail
          refine (clashesI_any A4 i c4 q _ (hQ10.below hB) hnb hq63).mono ?_
          rintro e w11 ⟨rfl, hb11⟩
          have hBB := hB.trans (hb11.mono hB.size)
          generalize clashesOf q = M at HT hMle hM0 ⊢
          have hRR := hR10.below hBB
          go_wp2_with (go_at_call 16; refine (pressingOkI_any _ _ _ p _ hRR hnb hs63).mono ?_; rintro e w' ⟨rfl, rfl⟩; rw [hV])
          go_ret
          exact ⟨rfl, hB10.trans (hBB.mono hB10.size)⟩
        · rw [if_neg ck, if_pos cn] at HT
          have hck : ¬ (0 : Int) < (k : Int) := by omega
          have hcn : (k : Int) + 1 < (i : Int) := by omega
          go_wp2_with fail
          refine (clashesI_any A4 i c4 q _ (hQ10.below hB) hnb hq63).mono ?_
          rintro e w11 ⟨rfl, hb11⟩
          have hBB := hB.trans (hb11.mono hB.size)
          generalize clashesOf q = M at HT hMle hM0 ⊢
          have hRR := hR10.below hBB
          go_wp2_with (go_at_call 16; refine (pressingOkI_any _ _ _ p _ hRR hnb hs63).mono ?_; rintro e w' ⟨rfl, rfl⟩; rw [hV])
          go_ret
          exact ⟨rfl, hB10.trans (hBB.mono hB10.size)⟩
        · rw [if_neg ck, if_neg cn] at HT
          have hck : ¬ (0 : Int) < (k : Int) := by omega
          have hcn : ¬ (k : Int) + 1 < (i : Int) := by omega
          go_wp2_with fail
          refine (clashesI_any A4 i c4 q _ (hQ10.below hB) hnb hq63).mono ?_
          rintro e w11 ⟨rfl, hb11⟩
          have hBB := hB.trans (hb11.mono hB.size)
          generalize clashesOf q = M at HT hMle hM0 ⊢
          have hRR := hR10.below hBB
          go_wp2_with (go_at_call 16; refine (pressingOkI_any _ _ _ p _ hRR hnb hs63).mono ?_; rintro e w' ⟨rfl, rfl⟩; rw [hV])
          go_ret
          exact ⟨rfl, hB10.trans (hBB.mono hB10.size)⟩

end Go.Proofs.Ytjgjdchnjiaclaa
