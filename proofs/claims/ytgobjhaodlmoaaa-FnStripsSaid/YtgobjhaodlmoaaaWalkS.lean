/-
  The walk of the law: strips give what is needed, and one strip less does not.
-/
import Derived.Test.YtgobjhaodlmoaaaDrawN
import Derived.Test.YtgobjhaodlmoaaaNeedC
set_option linter.unusedVariables false
namespace Go.Proofs.Ytgobjhaodlmoaaa
open Go.RowKit

def NeedsDrawn (W : World) (e : Ending) (w' : World) : Prop :=
  ∃ (A' : Option Addr) (n c' : Nat) (l : List Need), e = .returned (.slice A' n c') ∧ n ≤ c' ∧ Rd w' A' n 3 l needC ∧ SmallNeeds l ∧ Below W.heap.size W w'
theorem drawNeeds_any (A : Option Addr) (n c : Nat) (xs : List UInt8) (W : World) (hR : Rd W A n 1 xs byteC) (hn : n ≤ 1048576) :
    Calls Try.prog 32 #[.slice A n c] W (NeedsDrawn W) := by
  go_enter Try.func32, Try.ntmps32
  go_wp2_with fail
  refine (l01New_any A n c xs _ hR hn).mono ?_
  rintro e w1 ⟨g, rfl, hC1⟩
  go_wp2_with fail
  refine (l15List_any _ _ A n xs _ hC1).mono ?_
  rintro e w2 ⟨A', k, c', l, rfl, h1, hO, hS, hC2⟩
  have hb := hC2.base
  go_wp2_with fail
  go_ret
  exact ⟨A', k, c', l, rfl, h1, hO, hS, hb⟩

theorem strip_mul {a b : Int} (h1 : 1 ≤ a) (h2 : a ≤ 200) (h3 : 1 ≤ b) (h4 : b ≤ 400) : 1 ≤ a * b ∧ a * b ≤ 80000 := by
  have h5 : 1 * 1 ≤ a * b := Int.mul_le_mul h1 h3 (by decide) (by omega)
  have h6 : a * b ≤ 200 * 400 := Int.mul_le_mul h2 h4 (by omega) (by decide)
  omega
theorem keys_at {l : List Need} (h : Keys l) {i k : Nat} {x y : Need} (hx : l[i]? = some x) (hy : l[k]? = some y) (hne : i < k) : keyEq x y = false := by
  cases he : keyEq x y
  · rfl
  · have := h i k x y hx hy he
    omega
theorem countBy_bd {l : List Need} {b : Int} (hb : 0 ≤ b) (h : ∀ x ∈ l, 0 ≤ x.Count ∧ x.Count ≤ b) : 0 ≤ countBy l ∧ countBy l ≤ b * (l.length : Int) := ⟨(count_le_sum fun x hx => (h x hx).1).1, countBy_le fun x hx => (h x hx).2⟩
theorem strip_none : stripCount ⟨61, 5, 3⟩ 60 = -1 := by decide

set_option maxRecDepth 100000 in
set_option maxHeartbeats 4000000 in
theorem walk_FnStrips (A0 : Option Addr) (n0 c0 : Nat) (xs0 : List UInt8) (W : World) (hk0_ : n0 ≤ c0) (hm0_ : c0 ≤ maxLen) (hR0 : Rd W A0 n0 1 xs0 byteC) :
    Calls Try.prog 9 #[.slice A0 n0 c0] W fun e w' => e = .returned (.bool true) ∧ Below W.heap.size W w' := by
  have hn63 : n0 ≤ 9223372036854775807 := by unfold maxLen at hm0_; omega
  rcases Nat.lt_or_ge 1048576 n0 with hn0 | hn0
  · have hbig : decide ((1048576 : Int) < n0) = true := by simpa using (by omega : (1048576 : Int) < n0)
    go_enter Try.func9, Try.ntmps9
    go_wp2_with fail
    refine (big_any A0 n0 c0 _ hn63).mono ?_
    rintro e w' ⟨rfl, rfl⟩
    go_wp2_with fail
    go_ret
    exact ⟨rfl, by (repeat (first | exact Below.refl _ _ | assumption | (refine Below.drew ?_) | (refine below_drewN ?_ _) | (refine Below.alloc ?_ (by first | exact Nat.le_refl _ | (simp; done) | (simp; omega) | omega) _) | (refine Below.setCell ?_ (by first | exact Nat.le_refl _ | (simp; done) | (simp; omega) | omega) _) | (refine Below.trans ?_ (Below.mono (by assumption) (by first | exact Nat.le_refl _ | (simp; done) | (simp; omega) | omega)))))⟩
  · have hbig : decide ((1048576 : Int) < n0) = false := by simpa using (by omega : ¬ (1048576 : Int) < n0)
    go_enter Try.func9, Try.ntmps9
    go_wp2_with fail
    refine (big_any A0 n0 c0 _ hn63).mono ?_
    rintro e w' ⟨rfl, rfl⟩
    go_wp2_with fail
    refine (drawNeeds_any A0 n0 c0 xs0 _ hR0 hn0).mono ?_
    rintro e w1 ⟨A1, n, c1, l, rfl, hc1, hR1, hS, hb1⟩
    have hz1 := hb1.size
    go_wp2_with fail
    refine (at_any A0 n0 c0 xs0 0 _ (hR0.below hb1) hn0 (by omega) (by omega)).mono ?_
    rintro e w' ⟨a, rfl, ha0, ha1, rfl⟩
    have HLEN := Lib.hid hR1.len
    have hn5 : n ≤ 5 := by have := hS.1; rw [hR1.len] at this; exact this
    have HS := Lib.hid hS
    have HL := Lib.hid (strips_law hS (w := 60 + a) (by omega) (by omega))
    have HOK := Lib.hid (small_ok hS)
    obtain ⟨w, hw⟩ : ∃ w, Hid (w = 60 + a) := ⟨_, rfl⟩
    have hwa : 60 + a = w := hw.out.symm
    have hw60 : 60 ≤ w := by omega
    have hw315 : w ≤ 315 := by omega
    rw [hwa] at HL
    clear hS hbig hn63 hk0_ hm0_ hR0
    go_wp2
    go_loopw [5, 6] (fun s i wr => ∃ k : Nat, k ≤ n ∧ i = .int .i64 (k : Int) ∧ s = .int .i64 (sumBy w (l.take k)) ∧ Hid (0 ≤ sumBy w (l.take k) ∧ sumBy w (l.take k) ≤ 80000 * (k : Int)) ∧ Below w1.heap.size w1 wr) (fun _ i _ => n - (intOf i).toNat)
    case atStart => exact ⟨0, Nat.zero_le _, rfl, rfl, ⟨Int.le_refl _, Int.le_refl _⟩, Below.refl _ _⟩
    case round =>
      obtain ⟨k, hk, rfl, rfl, hsb, hB⟩ := hrel
      have hz := hB.size
      by_cases hlt : k < n
      · obtain ⟨b, off, x, rfl, hbW, hx, g0, g1, g2⟩ := hR1.need hlt hB
        have hxs := HS.out.2 x (List.mem_of_getElem? hx)
        have HSU := Lib.hid (sumBy_take_succ (w := w) hx)
        clear hx
        obtain ⟨xW, xH, xC⟩ := x
        simp only at g0 g1 g2 hxs HSU
        have hst : smallNeed ⟨xH, xW, xC⟩ := by unfold smallNeed at *; simp only at *; omega
        have F := strip_facts (small_need hxs) (show (⟨xW, xH, xC⟩ : Need).W ≤ w by unfold smallNeed at hxs; simp only at *; omega) (by omega) (by omega)
        have F2 := strip_facts (small_need hst) (show (⟨xH, xW, xC⟩ : Need).W ≤ w by unfold smallNeed at hst; simp only at *; omega) (by omega) (by omega)
        have HBW := Lib.hid (show betterWay ⟨xW, xH, xC⟩ w = decide (stripCount ⟨xW, xH, xC⟩ w * xH ≤ stripCount ⟨xH, xW, xC⟩ w * xW) by
          unfold betterWay turned
          simp only
          rw [show (stripCount ⟨xW, xH, xC⟩ w != -1) = true by simp; simp only at F; omega, show (stripCount ⟨xH, xW, xC⟩ w == -1) = false by simp; simp only at F2; omega, Bool.true_and, Bool.false_or])
        simp only at F F2
        unfold smallNeed at hxs
        simp only at hxs
        obtain ⟨N, hN⟩ : ∃ N, Hid (N = stripCount ⟨xW, xH, xC⟩ w) := ⟨_, rfl⟩
        obtain ⟨M, hM⟩ : ∃ M, Hid (M = stripCount ⟨xH, xW, xC⟩ w) := ⟨_, rfl⟩
        obtain ⟨E, hE⟩ : ∃ E, Hid (E = w / xW) := ⟨_, rfl⟩
        rw [← hN.out, ← hE.out] at F
        rw [← hM.out] at F2
        rw [← hN.out, ← hM.out] at HBW
        rw [← hN.out] at HSU
        generalize sumBy w (l.take k) = sm at hsb HSU
        have hsb1 := hsb.out.1
        have hsb2 := hsb.out.2
        have hm1 := strip_mul (a := N) (b := xH) (by omega) (by omega) (by omega) (by omega)
        have hm2 := strip_mul (a := M) (b := xW) (by omega) (by omega) (by omega) (by omega)
        have hm3 := strip_mul (a := N) (b := E) (by omega) (by omega) (by omega) (by omega)
        have hm4 : 0 ≤ (N - 1) * E := Int.mul_nonneg (by omega) (by omega)
        have hm5 := F.2.2.2.2.2
        have hq1 : ¬ N < 1 := by omega
        have hq2 : decide (N * E < xC) = false := decide_eq_false (by omega)
        have hq3 : decide (xC ≤ (N - 1) * E) = false := decide_eq_false (by omega)
        have hbr : b < wr.heap.size := by omega
        have hEq : w.tdiv xW = E := by rw [hE.out, Int.tdiv_eq_ediv_of_nonneg (by omega)]
        have hE' : w / xW = E := hE.out.symm
        have hND : (decide (N * xH ≤ M * xW)) = betterWay ⟨xW, xH, xC⟩ w := HBW.out.symm
        have hMe : stripCount ⟨xH, xW, xC⟩ w = M := hM.out.symm
        have hBWe : betterWay ⟨xW, xH, xC⟩ w = decide (N * xH ≤ M * xW) := HBW.out
        have hq1' : decide (N < 1) = false := decide_eq_false hq1
        clear hND hq1
        go_wp2_with (go_at_call 15; refine (stripCountI_any _ _ _ _ _).mono ?_; rintro e w2 ⟨rfl, hb2⟩; rw [← hN.out]; obtain ⟨hc2, hf2⟩ := bcell hb2; have hz2 := hb2.size; (try simp at hz2); (try (have hy2_W_0 : W.heap.size < w2.heap.size := (by omega))); (try (have hy2_W_1 : W.heap.size + 1 < w2.heap.size := (by omega))); (try (have hy2_W_2 : W.heap.size + 2 < w2.heap.size := (by omega))); (try (have hy2_wr_0 : wr.heap.size < w2.heap.size := (by omega))); (try (have hy2_wr_1 : wr.heap.size + 1 < w2.heap.size := (by omega))); (try (have hy2_wr_2 : wr.heap.size + 2 < w2.heap.size := (by omega))); (try (have hy2_w1_0 : w1.heap.size < w2.heap.size := (by omega))); (try (have hy2_w1_1 : w1.heap.size + 1 < w2.heap.size := (by omega))); (try (have hy2_w1_2 : w1.heap.size + 2 < w2.heap.size := (by omega))); (try (have hyb2 : b < w2.heap.size := (by omega))))
        have k0 := keepcell g0 hb2
        have k1 := keepcell g1 hb2
        have k2 := keepcell g2 hb2
        have hB2 : Below w1.heap.size w1 w2 := hB.trans (hb2.mono hz)
        clear g0 g1 g2 hc2 hf2 hb2
        have hr1 : IntKind.i64.wrap (N * E) = N * E := by rw [IntKind.wrap_i64]; omega
        have hr2 : IntKind.i64.wrap (N - 1) = N - 1 := by rw [IntKind.wrap_i64]; omega
        have hr3 : IntKind.i64.wrap ((N - 1) * E) = (N - 1) * E := by rw [IntKind.wrap_i64]; omega
        have hr4 : IntKind.i64.wrap (N * xH) = N * xH := by rw [IntKind.wrap_i64]; omega
        have hr5 : IntKind.i64.wrap (M * xW) = M * xW := by rw [IntKind.wrap_i64]; omega
        simp only [List.append_eq, List.cons_append, List.nil_append]
        go_region_held3 (fun v => v.cell? ⟨b, off + k * 3, none⟩ = some (.int .i64 xW) ∧ v.cell? ⟨b, off + k * 3 + 1, none⟩ = some (.int .i64 xH) ∧ v.cell? ⟨b, off + k * 3 + 2, none⟩ = some (.int .i64 xC) ∧ Below w2.heap.size w2 v)
          (first | (go_split_ands; refine ⟨?_, ?_, ?_, ?_⟩ <;> first | (exact keepcell (by assumption) (by assumption)) | (exact Below.trans (by assumption) (Below.mono (by assumption) (Below.size (by assumption)))) | (go_keep) | ((repeat (first | exact Below.refl _ _ | assumption | (refine Below.drew ?_) | (refine below_drewN ?_ _) | (refine Below.alloc ?_ (by first | exact Nat.le_refl _ | (simp; done) | (simp; omega) | omega) _) | (refine Below.setCell ?_ (by first | exact Nat.le_refl _ | (simp; done) | (simp; omega) | omega) _) | (refine Below.trans ?_ (Below.mono (by assumption) (by first | exact Nat.le_refl _ | (simp; done) | (simp; omega) | omega))))))))
          (first
            | (go_at_call 17; refine (betterWayI_any _ _ _ _ _).mono ?_; rintro e v ⟨rfl, hbv⟩)
            | (go_at_call 15; refine (stripCountI_any _ _ _ _ _).mono ?_; rintro e v ⟨rfl, hbv⟩))
        all_goals go_split_ands
        go_wp2
        go_roundw
        case rel =>
          refine ⟨k + 1, by omega, by go_num, by rw [HSU.out], ?_, by (repeat (first | exact Below.refl _ _ | assumption | (refine Below.drew ?_) | (refine below_drewN ?_ _) | (refine Below.alloc ?_ (by first | exact Nat.le_refl _ | (simp; done) | (simp; omega) | omega) _) | (refine Below.setCell ?_ (by first | exact Nat.le_refl _ | (simp; done) | (simp; omega) | omega) _) | (refine Below.trans ?_ (Below.mono (by assumption) (by first | exact Nat.le_refl _ | (simp; done) | (simp; omega) | omega)))))⟩
          show 0 ≤ sumBy w (l.take (k + 1)) ∧ sumBy w (l.take (k + 1)) ≤ 80000 * ((k + 1 : Nat) : Int)
          rw [HSU.out]
          omega
        case measure => simp [intOf]; omega
      · obtain rfl : k = n := by omega
        rw [List.take_of_length_le (Nat.le_of_eq HLEN.out)] at hsb ⊢
        obtain ⟨hl1, hl2, hl3, hl4⟩ := HL.out
        obtain ⟨hgn, hgok, hgs⟩ := small_group HS.out
        have HGOK := Lib.hid hgok
        have HGS := Lib.hid hgs
        have hgl := grp_len l
        rw [HLEN.out] at hgl
        have HK := Lib.hid (grp_keys l)
        have HCB := Lib.hid (countBy_grp l)
        have HG := groupI_any A1 k c1 l
        rw [hgn] at HG
        have HG := Lib.hid HG
        have hTL := hl1.symm
        have HLB := Lib.hid (countBy_bd (l := l) (b := 30) (by decide) fun x hx => by have := HS.out.2 x hx; unfold smallNeed at this; omega)
        obtain ⟨G, hG⟩ : ∃ G, Hid (G = grp l) := ⟨_, rfl⟩
        rw [← hG.out] at HGOK HGS hgl HK HCB HG hl4
        obtain ⟨T, hT⟩ : ∃ T, Hid (T = stripLength l w) := ⟨_, rfl⟩
        obtain ⟨LL, hLL⟩ : ∃ T, Hid (T = leastLength l w) := ⟨_, rfl⟩
        rw [← hT.out] at hl1 hl3 hl4 hTL
        rw [← hLL.out] at hl2 hl3
        rw [hTL] at hsb ⊢
        clear hl1 hTL hgn hgok hgs hlt
        go_wp2_with (go_at_call 28; refine (HG.out _ (hR1.below hB) (by omega)).mono ?_; rintro e w2 ⟨Ag, cg, rfl, hkg, hOg, hb2⟩)
        have hz2 := hb2.size
        have hB2 : Below w1.heap.size w1 w2 := hB.trans (hb2.mono hz)
        obtain ⟨n2, hn2⟩ : ∃ n2, Hid (n2 = G.length) := ⟨_, rfl⟩
        have hG2 := hOg.rd
        rw [← hn2.out] at hgl hG2 hkg ⊢
        have hg1 : ¬ (k : Int) < (n2 : Int) := by omega
        have hg2 : decide (LL < 0) = false := decide_eq_false (by omega)
        have hg3 : decide (T < LL) = false := decide_eq_false (by omega)
        have hg4 : decide ((k : Int) < (n2 : Int)) = false := decide_eq_false hg1
        have hg5 : 0 < k → 0 < n2 := hgl.2
        have hgk : ¬ k < n2 := by omega
        have hg8 : decide (k < n2) = false := decide_eq_false hgk
        have HCT : Hid (∀ q, 0 ≤ countBy (G.take q) ∧ countBy (G.take q) ≤ 750) := fun q => by
          have h1 := countBy_bd (l := G.take q) (b := 150) (by decide) fun x hx => by have := (HGS.out x (List.mem_of_mem_take hx)).2.2; omega
          have h2 : (G.take q).length ≤ 5 := by rw [List.length_take]; have := hn2.out; omega
          omega
        have HCL : Hid (∀ q, 0 ≤ countBy (l.take q) ∧ countBy (l.take q) ≤ 750) := fun q => by
          have h1 := countBy_bd (l := l.take q) (b := 150) (by decide) fun x hx => by have := HS.out.2 x (List.mem_of_mem_take hx); unfold smallNeed at this; omega
          have h2 : (l.take q).length ≤ 5 := by rw [List.length_take]; have := HLEN.out; omega
          omega
        have hn25 : n2 ≤ 5 := by omega
        go_wp2_with (go_at_call 24; refine (stripLengthI_any _ _ _ l _ _ (hR1.below hB2) (by omega)).mono ?_; rintro e w3 ⟨rfl, hb3⟩; rw [← hT.out])
        have hz3 := hb3.size
        have hB3 : Below w1.heap.size w1 w3 := hB2.trans (hb3.mono (by omega))
        have hg6 : (decide (0 < k) = true ∧ ((n2 : Int) == 0) = false ∧ 0 < k) ∨ (decide (0 < k) = false ∧ (decide (0 < k) = false) ∧ ¬ 0 < k) := by
          by_cases h0 : 0 < k
          · exact .inl ⟨decide_eq_true h0, by rw [beq_eq_false_iff_ne]; have := hg5 h0; omega, h0⟩
          · exact .inr ⟨decide_eq_false h0, decide_eq_false h0, h0⟩
        clear hg5
        rcases hg6 with ⟨hg6, hg7, hg9⟩ | ⟨hg6, hg7, hg9⟩
        all_goals
          go_wp2_with (go_at_call 26; refine (leastLengthI_any _ _ _ l _ _ (hR1.below hB3) (by omega)).mono ?_; rintro e w4 ⟨rfl, hb4⟩; rw [← hLL.out])
          have hz4 := hb4.size
          have hB4 : Below w1.heap.size w1 w4 := hB3.trans (hb4.mono (by omega))
          have hBW : Below W.heap.size W w4 := hb1.trans (hB4.mono hz1)
          have hWz : W.heap.size ≤ w4.heap.size := hBW.size
          have hR4 := hR1.below hB4
          have hG4 := (hG2.below hb3).below hb4
          clear hR1 hB hB2 hB3 hB4 hb1 hb2 hb3 hb4 hOg hG2 hg1 hg2 hg3 hg4 hg6 hg7 hg8 hg9 hgk
        all_goals
          go_loopw [12, 13] (fun ct i wr => ∃ q : Nat, q ≤ n2 ∧ i = .int .i64 (q : Int) ∧ ct = .int .i64 (countBy (G.take q)) ∧ Below w4.heap.size w4 wr) (fun _ i _ => n2 - (intOf i).toNat)
          case atStart => exact ⟨0, Nat.zero_le _, rfl, rfl, Below.refl _ _⟩
          case round =>
            obtain ⟨q, hq, rfl, rfl, hB⟩ := hrel
            have hzz := hB.size
            by_cases hlq : q < n2
            · obtain ⟨b, off, x, rfl, hbW, hx, g0, g1, g2⟩ := hG4.need hlq hB
              have HCS := Lib.hid (countBy_take_succ hx)
              have hct := HCT.out q
              have hxs := HGS.out x (List.mem_of_getElem? hx)
              have HX := Lib.hid hx
              clear hx
              obtain ⟨xW, xH, xC⟩ := x
              simp only at g0 g1 g2 hxs HCS
              generalize countBy (G.take q) = cq at hct HCS
              go_wp2
              go_loopw [14] (fun i wr => ∃ j : Nat, j ≤ q ∧ i = .int .i64 (j : Int) ∧ Below w4.heap.size w4 wr) (fun i _ => q - (intOf i).toNat)
              case atStart => exact ⟨0, Nat.zero_le _, rfl, hB⟩
              case round =>
                clear hB g0 g1 g2
                obtain ⟨j, hj, rfl, hB⟩ := hrel
                have hzz := hB.size
                obtain ⟨b', off', x', ee, hbW', hx', g0, g1, g2⟩ := hG4.need hlq hB
                injection ee with ee
                injection ee with ee1 ee2
                subst ee1 ee2
                obtain rfl : (⟨xW, xH, xC⟩ : Need) = x' := by rw [HX.out] at hx'; injection hx'
                simp only at g0 g1 g2
                by_cases hlj : j < q
                · obtain ⟨b', off', y, ee, hbW', hy, k0, k1, k2⟩ := hG4.need (k := j) (by omega) hB
                  injection ee with ee
                  injection ee with ee1 ee2
                  subst ee1 ee2
                  have hkf := keys_at HK.out hy HX.out hlj
                  have hqn : (q : Int) < (n2 : Int) := by omega
                  have hjn : (j : Int) < (n2 : Int) := by omega
                  clear hy hx'
                  obtain ⟨yW, yH, yC⟩ := y
                  simp only at k0 k1 k2
                  unfold keyEq at hkf
                  simp only at hkf
                  rcases hW : (yW == xW) with _ | _
                  · clear hkf
                    go_wp2
                    go_quiet (fail)
                    go_wp2
                    go_roundw
                    case rel => exact ⟨j + 1, by omega, by go_num, by (repeat (first | exact Below.refl _ _ | assumption | (refine Below.drew ?_) | (refine below_drewN ?_ _) | (refine Below.alloc ?_ (by first | exact Nat.le_refl _ | (simp; done) | (simp; omega) | omega) _) | (refine Below.setCell ?_ (by first | exact Nat.le_refl _ | (simp; done) | (simp; omega) | omega) _) | (refine Below.trans ?_ (Below.mono (by assumption) (by first | exact Nat.le_refl _ | (simp; done) | (simp; omega) | omega)))))⟩
                    case measure => simp [intOf]; omega
                  · rw [hW, Bool.true_and] at hkf
                    go_wp2
                    go_quiet (fail)
                    go_wp2
                    go_roundw
                    case rel => exact ⟨j + 1, by omega, by go_num, by (repeat (first | exact Below.refl _ _ | assumption | (refine Below.drew ?_) | (refine below_drewN ?_ _) | (refine Below.alloc ?_ (by first | exact Nat.le_refl _ | (simp; done) | (simp; omega) | omega) _) | (refine Below.setCell ?_ (by first | exact Nat.le_refl _ | (simp; done) | (simp; omega) | omega) _) | (refine Below.trans ?_ (Below.mono (by assumption) (by first | exact Nat.le_refl _ | (simp; done) | (simp; omega) | omega)))))⟩
                    case measure => simp [intOf]; omega
                · obtain rfl : j = q := by omega
                  clear hx'
                  go_wp2
                  go_roundw
                  case rel => exact ⟨j + 1, by omega, by go_num, by rw [HCS.out], hB⟩
                  case measure => simp [intOf]; omega
            · obtain rfl : q = n2 := by omega
              rw [List.take_of_length_le (Nat.le_of_eq hn2.out.symm), HCB.out]
              have hct := HLB.out
              rw [HLEN.out] at hct
              go_wp2
              go_loopw [12, 15] (fun ct i wr => ∃ p : Nat, p ≤ k ∧ i = .int .i64 (p : Int) ∧ ct = .int .i64 (countBy l - countBy (l.take p)) ∧ Below w4.heap.size w4 wr) (fun _ i _ => k - (intOf i).toNat)
              case atStart => exact ⟨0, Nat.zero_le _, rfl, by rw [show countBy (l.take 0) = 0 from rfl, Int.sub_zero], hB⟩
              case round =>
                clear hB hzz
                obtain ⟨p, hp, rfl, rfl, hB⟩ := hrel
                have hzz := hB.size
                by_cases hlp : p < k
                · obtain ⟨b, off, x, rfl, hbW, hx, g0, g1, g2⟩ := hR4.need hlp hB
                  have HCS := Lib.hid (countBy_take_succ hx)
                  have hct2 := HCL.out p
                  have hxs := HS.out.2 x (List.mem_of_getElem? hx)
                  clear hx
                  obtain ⟨xW, xH, xC⟩ := x
                  unfold smallNeed at hxs
                  simp only at g0 g1 g2 hxs HCS
                  generalize countBy (l.take p) = cp at hct2 HCS
                  generalize countBy l = cl at hct
                  go_wp2
                  go_roundw
                  case rel => exact ⟨p + 1, by omega, by go_num, num_eq (by rw [HCS.out]; omega), hB⟩
                  case measure => simp [intOf]; omega
                · obtain rfl : p = k := by omega
                  have h00 : countBy l - countBy (l.take p) = 0 := by rw [List.take_of_length_le (Nat.le_of_eq HLEN.out)]; omega
                  rw [h00]
                  have hok := HOK.out
                  have hsn := strip_none
                  have hRw := hR4.below hB
                  have hGw := hG4.below hB
                  clear h00 hct
                  go_wp2_with (first | (go_at_call 24; refine (stripLengthI_any _ _ _ G _ _ hGw (by omega)).mono ?_; rintro e w5 ⟨rfl, hb5⟩; have hz5 := hb5.size) | (go_at_call 21; refine (needsOkI_any _ _ _ l _ (hRw.below hb5) (by omega)).mono ?_; rintro e w6 ⟨rfl, hb6⟩; rw [hok]; have hz6 := hb6.size) | (go_at_call 15; refine (stripCountI_any _ _ _ _ _).mono ?_; rintro e w7 ⟨rfl, hb7⟩; rw [hsn]; have hz7 := hb7.size))
                  go_ret
                  exact ⟨rfl, hBW.trans ((((hB.trans (hb5.mono hzz)).trans (hb6.mono (by omega))).trans (hb7.mono (by omega))).mono hWz)⟩

end Go.Proofs.Ytgobjhaodlmoaaa
