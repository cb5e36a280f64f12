/-
  Contract: the closure that joins the units of a part, by the program.
-/
import Derived.Test.YtmjdgplkcocgmaaJoiC
import Derived.Test.YtmjdgplkcocgmaaKnoH
import Derived.Test.YtmjdgplkcocgmaaKnoD
import Derived.Test.YtmjdgplkcocgmaaZWords
import Derived.LoopN
import Derived.Deep.RegionLaw
set_option linter.unusedVariables false
set_option linter.unusedSimpArgs false
namespace Go.Proofs.Ytmjdgplkcocgmaa
open Go.RowKit

theorem infoJoin2 : (Try.prog.info? 76).map (fun i => (i.zero, i.size, i.bytes)) = some (some (.agg #[.bool false, .int .i64 0, .int .i64 0]), 3, 24) := by kernel_rfl
theorem joinC_one2 (x : Join) : ∀ u ∈ joinC x, u.oneCell' = true := fun u hu => by
  simp [joinC] at hu
  rcases hu with rfl | rfl | rfl <;> rfl
/-- what the closure has captured: itself, the joins so far, the number of patches -/
structure Caps (w : World) (lo Bu Bo Bn : Nat) (N : Int) (v : Value) (js : List Join) : Prop where
  self : w.heap[Bu]? = some (.cells #[.func (.func 90) #[] #[.pointer (some ⟨Bu, 0, none⟩), .pointer (some ⟨Bo, 0, none⟩), .pointer (some ⟨Bn, 0, none⟩)]] 104 (0, 0))
  out : w.heap[Bo]? = some (.cells #[v] 49 (0, 0))
  num : w.heap[Bn]? = some (.cells #[.int .i64 N] 3 (0, 0))
  acc : Acc w lo 76 3 v js joinC
theorem Caps.below {w w' : World} {lo Bu Bo Bn : Nat} {N : Int} {v : Value} {js : List Join} (h : Caps w lo Bu Bo Bn N v js) (hb : Below w.heap.size w w') : Caps w' lo Bu Bo Bn N v js :=
  ⟨(hb.block _ (heap_lt h.self)).trans h.self, (hb.block _ (heap_lt h.out)).trans h.out, (hb.block _ (heap_lt h.num)).trans h.num, h.acc.below hb⟩
theorem Caps.diff {w : World} {lo Bu Bo Bn : Nat} {N : Int} {v : Value} {js : List Join} (h : Caps w lo Bu Bo Bn N v js) : Bu ≠ Bo ∧ Bn ≠ Bo ∧ v.ownBlock ≠ some Bu ∧ v.ownBlock ≠ some Bo ∧ v.ownBlock ≠ some Bn := by
  refine ⟨fun e => ?_, fun e => ?_, h.acc.other h.self (by decide), h.acc.other h.out (by decide), h.acc.other h.num (by decide)⟩
  · have h1 := h.self
    rw [e, h.out] at h1
    injection h1 with h1
    injection h1 with _ h2 _
    exact absurd h2 (by decide)
  · have h1 := h.num
    rw [e, h.out] at h1
    injection h1 with h1
    injection h1 with _ h2 _
    exact absurd h2 (by decide)
def UnitOut (W : World) (lo Bu Bo Bn : Nat) (N : Int) (v : Value) (js : List Join) (X : List Join × Int) (e : Ending) (w' : World) : Prop :=
  e = .returned (.int .i64 X.2) ∧ ∃ v', Caps w' lo Bu Bo Bn N v' (js ++ X.1) ∧ Grew W w' Bo v v'

set_option maxRecDepth 100000 in
set_option maxHeartbeats 40000000 in
theorem unitI_N : ∀ (f : Nat) (w h : Int) (A : Option Addr) (n c : Nat) (ps : List Patch) (NA : Option Addr) (d : Nat) (nums : List Int) (W : World) (lo Bu Bo Bn : Nat) (N : Int) (v : Value) (js : List Join) (next : Int), ps.length ≤ f → layoutOk w h ps = true → canSew ⟨w, h, ps⟩ = true → Rd W A n 5 ps patchC → Rd W NA n 1 nums intC →
    Caps W lo Bu Bo Bn N v js → lo ≤ W.heap.size → 0 ≤ N → N ≤ 1000 → N + (js.length : Int) = next → next + (n : Int) ≤ 1000 →
    Calls Try.prog 90 #[.agg #[.int .i64 w, .int .i64 h, .slice A n c], .slice NA n d, .pointer (some ⟨Bu, 0, none⟩), .pointer (some ⟨Bo, 0, none⟩), .pointer (some ⟨Bn, 0, none⟩)] W (UnitOut W lo Bu Bo Bn N v js (joinsL ⟨w, h, ps⟩ nums next)) := by
  intro f
  induction f with
  | zero => intro w h A n c ps NA d nums W lo Bu Bo Bn N v js next hf hl; exact absurd (layout_parts hl).2.2.1.1 (by omega)
  | succ f ih =>
    intro w h A n c ps NA d nums W lo Bu Bo Bn N v js next hf hl hcan hR hNu hCap hlo hN0 hN1 hnx hx1
    have HLEN := Lib.hid hR.len
    have hn12 := (layout_parts hl).2.2.1
    rw [HLEN.out] at hn12
    have hN : n ≤ 1048576 := by omega
    have HL := Lib.hid hl; have HCAN := Lib.hid hcan; clear hl hcan
    have HDIF := Lib.hid hCap.diff
    obtain ⟨jb, hjb⟩ : ∃ j, Hid (W.heap.size = j) := ⟨_, rfl⟩
    obtain ⟨wa, hwa⟩ : ∃ v, Hid (W.alloc (.cells #[.int .i64 w, .int .i64 h, .slice A n c] 30) = v) := ⟨_, rfl⟩
    have ra : wa.heap[jb]? = some (.cells #[.int .i64 w, .int .i64 h, .slice A n c] 30 (0, 0)) := by rw [← hwa.out, ← hjb.out]; exact heap_alloc_new W _
    have ba : Below W.heap.size W wa := by rw [← hwa.out]; exact (Below.refl _ _).alloc (Nat.le_refl _) _
    have sa : wa.heap.size = jb + 1 := by rw [← hwa.out, ← hjb.out]; simp
    have hRa := hR.below ba; have hNa := hNu.below ba; have hCa := hCap.below ba
    obtain ⟨bn, on, eNA, hbnW, _⟩ := hNu.2 (by omega)
    subst eNA
    clear hR hNu sa
    by_cases hn1 : n = 1
    · have HJ := Lib.hid (joins_one (l := ⟨w, h, ps⟩) HL.out (by show ps.length = 1; rw [HLEN.out]; exact hn1) nums next)
      subst hn1
      rw [HJ.out]
      obtain ⟨b, off, x, eNA, hbW, hy, q0⟩ := hNa.int (k := 0) (by omega) (Below.refl _ _)
      injection eNA with eNA; injection eNA with eNA eNA2; subst eNA; subst eNA2
      rw [Nat.add_zero] at q0
      have hg : nums.getD 0 0 = x := by simp [hy]
      rw [hg]
      have HBA := Lib.hid ba; have HCA := Lib.hid hCa
      clear hg hy hRa hNa ba hCa hCap ra
      go_enter Try.func90, Try.ntmps90
      go_wp2_with (first | rw [hwa.out] | rw [hjb.out])
      go_ret
      exact ⟨rfl, v, by rw [List.append_nil]; exact HCA.out, Grew.of_below HBA.out Bo v⟩
    have e0 : wa.cell? ⟨jb, 0, none⟩ = some (.int .i64 w) := by rw [cell_of_row _ _ _ _ _ _ ra]; rfl
    have e1 : wa.cell? ⟨jb, 1, none⟩ = some (.int .i64 h) := by rw [cell_of_row _ _ _ _ _ _ ra]; rfl
    have e2 : wa.cell? ⟨jb, 2, none⟩ = some (.slice A n c) := by rw [cell_of_row _ _ _ _ _ _ ra]; rfl
    have hn1' : ((n : Int) == 1) = false := by rw [beq_eq_false_iff_ne]; omega
    have hn1n : ¬ (n : Int) = 1 := by omega
    have HN1 := Lib.hid (show ps.length ≠ 1 by rw [HLEN.out]; exact hn1)
    have HN1' := Lib.hid hn1; clear hn1
    have hBa := ba; clear ra ba
    rcases hcs : cutsOf w h ps with _ | ⟨ct, cs⟩
    · have HS := sew_knot (l := ⟨w, h, ps⟩) HL.out HN1.out hcs; rw [HCAN.out] at HS; cases HS
    go_enter Try.func90, Try.ntmps90
    go_wp2_with (first | rw [hwa.out] | rw [hjb.out])
    refine (cutsOfI_any _ _ _ _ _ ps _ hRa hN).mono ?_
    rintro e w2 ⟨C2, k2, rfl, hk2, hO2, hb2⟩
    replace e0 := keepcell e0 hb2
    replace e1 := keepcell e1 hb2
    replace e2 := keepcell e2 hb2
    have hB2 := hBa.trans (hb2.mono hBa.size)
    have hs2 := hB2.size
    have hR2 := hRa.below hb2; have hN2 := hNa.below hb2; have hC2 := hCa.below hb2
    have hjb2 : jb < w2.heap.size := by have := block_lt_of_cell e0; exact this
    clear hb2 hBa hRa hNa hCa hn1' hn1n
    have hCR := hO2.rd; clear hO2
    rw [hcs] at hCR
    obtain ⟨m, hm⟩ : ∃ m, Hid ((ct :: cs).length = m) := ⟨_, rfl⟩
    have hm0 : 0 < m := by rw [← hm.out]; simp
    rw [hcs, hm.out]
    rw [hm.out] at hCR
    have hmI : (0 : Int) < (m : Int) := by omega
    obtain ⟨b, off, x, rfl, hbW, hx, q0, q1⟩ := hCR.cut hm0 (Below.refl _ _)
    have hxe : x = ct := by simpa using hx.symm
    subst hxe
    clear hx
    obtain ⟨up, at'⟩ := x
    simp only [Nat.zero_mul, Nat.add_zero] at q0 q1
    have hk : isCut w h ps ⟨up, at'⟩ = true := mem_cuts.1 (by rw [hcs]; simp)
    have HK := Lib.hid hk
    have hSC := sew_cut (l := ⟨w, h, ps⟩) HL.out HN1.out hcs
    rw [HCAN.out, Bool.and_eq_true] at hSC
    have HSC := Lib.hid hSC; clear hSC
    have HJC := Lib.hid (fun X Y hx hy => joins_cut (l := ⟨w, h, ps⟩) HL.out HN1.out hcs HSC.out.1 HSC.out.2 nums next X Y hx hy)
    have hsm := cut_smaller (l := ⟨w, h, ps⟩) hk
    have hsA : (partA ⟨up, at'⟩ ps).length ≤ f := by have h9 := hsm.1; have : (partA ⟨up, at'⟩ ps).length < ps.length := h9; omega
    have hsB : (partB ⟨up, at'⟩ ps).length ≤ f := by have h9 := hsm.2; have : (partB ⟨up, at'⟩ ps).length < ps.length := h9; omega
    have HPO := Lib.hid (parts_ok hk)
    have HLS := Lib.hid (len_split ⟨up, at'⟩ ps)
    have HNL := Lib.hid (numsA_all ⟨up, at'⟩ ps nums)
    clear hk hsm hcs hCR
    obtain ⟨j8, hj8⟩ : ∃ j, Hid (w2.heap.size = j) := ⟨_, rfl⟩
    obtain ⟨w3, hw3⟩ : ∃ v, Hid (w2.alloc (.cells #[.bool up, .int .i64 at'] 72) = v) := ⟨_, rfl⟩
    have r8 : w3.heap[j8]? = some (.cells #[.bool up, .int .i64 at'] 72 (0, 0)) := by rw [← hw3.out, ← hj8.out]; exact heap_alloc_new w2 _
    have b8 : Below w2.heap.size w2 w3 := by rw [← hw3.out]; exact (Below.refl _ _).alloc (Nat.le_refl _) _
    have s8 : w3.heap.size = j8 + 1 := by rw [← hw3.out, ← hj8.out]; simp
    replace e0 := keepcell e0 b8
    replace e1 := keepcell e1 b8
    replace e2 := keepcell e2 b8
    have g0 : w3.cell? ⟨j8, 0, none⟩ = some (.bool up) := by rw [cell_of_row _ _ _ _ _ _ r8]; rfl
    have g1 : w3.cell? ⟨j8, 1, none⟩ = some (.int .i64 at') := by rw [cell_of_row _ _ _ _ _ _ r8]; rfl
    have hB3 := hB2.trans (b8.mono hs2); have hs3 := hB3.size; have hR3 := hR2.below b8; have hN3 := hN2.below b8; have hC3 := hC2.below b8
    clear hR2 hN2 hC2 hB2
    have HR8 := Lib.hid r8; have HB8 := Lib.hid b8; have HS8 := Lib.hid s8; clear r8 b8 s8
    have HJ8 : Hid (W.heap.size ≤ j8) := by show _ ≤ _; rw [← hj8.out]; exact hs2
    go_wp2_with (rw [hw3.out]; (try rw [hj8.out]))
    refine (divI_dis _ _ _ _ _ ps _ _ _ hR3 hN HK.out).mono ?_
    rintro e w4 ⟨A1, n1, c1, A2, n2, c2, M1, m1, d1, M2, m2, d2, rfl, hOA, hOB, hOM, hON, hdd, hb4, hdis⟩
    replace e0 := keepcell e0 hb4
    replace e1 := keepcell e1 hb4
    replace e2 := keepcell e2 hb4
    replace g0 := keepcell g0 hb4
    replace g1 := keepcell g1 hb4
    have hB4 := hB3.trans (hb4.mono hs3); have hs4 := hB4.size; have hN4 := hN3.below hb4; have hC4 := hC3.below hb4
    have r8 := (hb4.block j8 (heap_lt HR8.out)).trans HR8.out
    clear HR8 hb4 hR3 hN3 hC3 hB3
    go_wp2_with fail
    obtain ⟨jp, hjp⟩ : ∃ j, Hid (w4.heap.size = j) := ⟨_, rfl⟩
    obtain ⟨v1, hv1⟩ : ∃ v, Hid (w4.alloc (.cells #[.int .i64 (wA w ⟨up, at'⟩), .int .i64 (hA h ⟨up, at'⟩), .slice A1 n1 c1, .int .i64 (wB w ⟨up, at'⟩), .int .i64 (hB h ⟨up, at'⟩), .slice A2 n2 c2] 98) = v) := ⟨_, rfl⟩
    have rp : v1.heap[jp]? = some (.cells #[.int .i64 (wA w ⟨up, at'⟩), .int .i64 (hA h ⟨up, at'⟩), .slice A1 n1 c1, .int .i64 (wB w ⟨up, at'⟩), .int .i64 (hB h ⟨up, at'⟩), .slice A2 n2 c2] 98 (0, 0)) := by rw [← hv1.out, ← hjp.out]; exact heap_alloc_new w4 _
    have bp : Below w4.heap.size w4 v1 := by rw [← hv1.out]; exact (Below.refl _ _).alloc (Nat.le_refl _) _
    have sp : v1.heap.size = jp + 1 := by rw [← hv1.out, ← hjp.out]; simp
    obtain ⟨jo, hjo⟩ : ∃ j, Hid (v1.heap.size = j) := ⟨_, rfl⟩
    obtain ⟨w5, hw5⟩ : ∃ v, Hid (v1.alloc (.cells #[.slice M1 m1 d1, .slice M2 m2 d2] 99) = v) := ⟨_, rfl⟩
    have ro : w5.heap[jo]? = some (.cells #[.slice M1 m1 d1, .slice M2 m2 d2] 99 (0, 0)) := by rw [← hw5.out, ← hjo.out]; exact heap_alloc_new v1 _
    have bo : Below v1.heap.size v1 w5 := by rw [← hw5.out]; exact (Below.refl _ _).alloc (Nat.le_refl _) _
    have so : w5.heap.size = jo + 1 := by rw [← hw5.out, ← hjo.out]; simp
    rw [hv1.out, hw5.out, hjp.out]
    have hjo1 : jp + 1 = jo := by rw [← hjo.out, sp]
    rw [hjo1]
    have hb45 : Below w4.heap.size w4 w5 := bp.trans (bo.mono bp.size)
    have rp5 := (bo.block jp (heap_lt rp)).trans rp
    have r85 := (hb45.block j8 (heap_lt r8)).trans r8
    have hB5 := hB4.trans (hb45.mono hs4); have hs5 := hB5.size; have hN5 := hN4.below hb45
    have hOA5 := hOA.below hb45; have hOB5 := hOB.below hb45; have hOM5 := hOM.below hb45; have hON5 := hON.below hb45
    have hlA : n1 = (partA ⟨up, at'⟩ ps).length := hOA.len.symm; have hlB : n2 = (partB ⟨up, at'⟩ ps).length := hOB.len.symm
    have hnu := HNL.out; unfold numsOf pickNums at hnu; rw [List.length_map, List.length_map, HLEN.out] at hnu
    have hm1 : m1 = n1 := by rw [hlA, ← hnu.1]; exact hOM.len.symm
    have hm2 : m2 = n2 := by rw [hlB, ← hnu.2]; exact hON.len.symm
    have hls := HLS.out; rw [HLEN.out] at hls
    have hpo := HPO.out.2.2
    have hsum : n1 + n2 = n := by omega
    have hp1 : 1 ≤ n1 := by omega
    have hp2 : 1 ≤ n2 := by omega
    subst hm1; subst hm2
    have HLEN12 := Lib.hid (And.intro hlA hlB)
    clear hlA hlB hnu hls hpo
    obtain ⟨gM, TM, eM, hgM1, hgM2, hPM⟩ := hOM5.2 (by omega)
    obtain ⟨gN, TN, eN, hgN1, hgN2, hPN⟩ := hON5.2 (by omega)
    subst eM; subst eN
    obtain ⟨di1, di2, di3, di4, di5, di6⟩ := hdis
    have hMN : gM ≠ gN := fun e => di6 gM rfl (by rw [e]; rfl)
    have hlo3 : W.heap.size ≤ w3.heap.size := hs3
    have hsv1 := bp.size; have hsv2 := bo.size
    have hjp4 : w4.heap.size = jp := hjp.out
    have hnM : jp ≠ gM ∧ jo ≠ gM ∧ jp ≠ gN ∧ jo ≠ gN := by omega
    have h8M : j8 ≠ gM ∧ j8 ≠ gN := by have h1 := HS8.out; omega
    have hoc0 : w5.cell? ⟨jo, 0, none⟩ = some (.slice (some ⟨gM, 0, none⟩) m1 d1) := by rw [cell_of_row _ _ _ _ _ _ ro]; rfl
    have hoc1 : w5.cell? ⟨jo, 1, none⟩ = some (.slice (some ⟨gN, 0, none⟩) m2 d2) := by rw [cell_of_row _ _ _ _ _ _ ro]; rfl
    have HNB := Lib.hid hN5
    have HUM := Lib.hid hOM.len; have HUN := Lib.hid hON.len
    have HR5 := Lib.hid (And.intro rp5 (And.intro ro r85))
    have HOW := Lib.hid (And.intro hOA5 hOB5)
    have HB5 := Lib.hid (And.intro hB5 hb45)
    have HDI := Lib.hid (And.intro di2 (And.intro di3 (And.intro di4 di5)))
    have HCP := Lib.hid hCap
    clear di1 di2 di3 di4 di5 di6 e0 e1 e2 q0 q1 g0 g1 hOA hOB hOM hON hOA5 hOB5 hOM5 hON5 hN4 hC4 hCap rp rp5 r8 r85 bp bo sp so hb45 hB4 hdd hN5 hB5
    have hwr1 : IntKind.i64.wrap ((0 : Int) + 1) = 1 := by decide
    have hwr2 : IntKind.i64.wrap ((1 : Int) + 1) = 2 := by decide
    refine wp_loop_rounds 3 ?_
    rw [Go.rounds_succ]
    go_wp2_with fail
    go_loopw [39] (fun i wr => ∃ q : Nat, q ≤ m1 ∧ i = .int .i64 (q : Int) ∧ Part wr gM TM m1 1 (putRow (numsUp ⟨up, at'⟩ ps true n) nums q) intC m1 ∧ w5.grownBy wr (some gM)) (fun i _ => m1 - (intOf i).toNat)
    case atStart => exact ⟨0, Nat.zero_le _, rfl, hPM, World.grownBy.refl _ _⟩
    case round =>
      obtain ⟨q, hq, rfl, hPq, hG0⟩ := hrel
      have hor : wr.cell? ⟨jo, 0, none⟩ = some (.slice (some ⟨gM, 0, none⟩) m1 d1) := (hG0.cell_far ⟨jo, 0, none⟩ (block_lt_of_cell hoc0) (by intro e; injection e with e; exact hnM.2.1 e)).trans hoc0
      by_cases hlt : q < m1
      · have hx : (numsUp ⟨up, at'⟩ ps true n)[q]? = some ((numsUp ⟨up, at'⟩ ps true n)[q]'(by rw [HUM.out]; exact hlt)) := List.getElem?_eq_getElem _
        obtain ⟨p, hp, hpn⟩ := numsUp_at hx
        rw [hp] at hx
        have hplen : (putRow (numsUp ⟨up, at'⟩ ps true n) nums q).length = m1 := by rw [putRow_len]; exact HUM.out
        have hcq := hPq.int_at hplen hlt
        rw [putRow_at hx] at hcq
        have hfq : wr.frozen? ⟨gM, q, none⟩ = false := hPq.frozen _
        obtain ⟨bn', on', y, eNA, hbn, hy, gy⟩ := HNB.out.int hpn (Below.refl _ _)
        injection eNA with eNA; injection eNA with eNA eNA2; subst eNA; subst eNA2
        have hbnM : bn ≠ gM ∧ bn ≠ gN := by omega
        have gyr : wr.cell? ⟨bn, on + p, none⟩ = some (.int .i64 y) := (hG0.cell_far ⟨bn, on + p, none⟩ hbn (by intro e; injection e with e; exact hbnM.1 e)).trans gy
        have hyv : nums.getD (p : Int).toNat 0 = y := by rw [Int.toNat_natCast, List.getD_eq_getElem?_getD, hy]; rfl
        have HX := Lib.hid hx; have HYV := Lib.hid hyv; have HP := Lib.hid hp
        clear hx hyv hp hy gy
        have hpI : (p : Int) < (n : Int) := by omega
        have hqI : (q : Int) < (m1 : Int) := by omega
        go_wp2_with fail
        go_region
        all_goals
          go_wp2_with fail
          go_roundw
          case rel => exact ⟨q + 1, by omega, by go_num, by rw [← putRow_succ HX.out, HYV.out]; exact hPq.int_set y, grown_drew (grownBy_trans hG0 (grown_put _ _ _ _))⟩
          case measure => simp [intOf]; omega
      · obtain rfl : m1 = q := by omega
        rw [putRow_all (Nat.le_of_eq HUM.out)] at hPq
        obtain ⟨u6, hwx⟩ : ∃ z, z = wr := ⟨_, rfl⟩
        subst hwx
        have hPM1 := hPq
        have hPN1 := hPN.block (hG0.block gN hPN.lt (fun e => by injection e with e; exact hMN e.symm))
        have hocA : u6.cell? ⟨jo, 1, none⟩ = some (.slice (some ⟨gN, 0, none⟩) m2 d2) := (hG0.cell_far ⟨jo, 1, none⟩ (block_lt_of_cell hoc1) (by intro e; injection e with e; exact hnM.2.1 e)).trans hoc1
        clear hor hPq hPM hPN hoc0 hoc1
        go_wp2_with fail
        rw [Go.rounds_succ]
        go_wp2_with fail
        go_loopw [39] (fun i wr => ∃ q : Nat, q ≤ m2 ∧ i = .int .i64 (q : Int) ∧ Part wr gN TN m2 1 (putRow (numsUp ⟨up, at'⟩ ps false n) nums q) intC m2 ∧ u6.grownBy wr (some gN)) (fun i _ => m2 - (intOf i).toNat)
        case atStart => exact ⟨0, Nat.zero_le _, rfl, hPN1, World.grownBy.refl _ _⟩
        case round =>
          obtain ⟨q, hq, rfl, hPq, hG1⟩ := hrel
          have hor : wr.cell? ⟨jo, 1, none⟩ = some (.slice (some ⟨gN, 0, none⟩) m2 d2) := (hG1.cell_far ⟨jo, 1, none⟩ (block_lt_of_cell hocA) (by intro e; injection e with e; exact hnM.2.2.2 e)).trans hocA
          by_cases hlt : q < m2
          · have hx : (numsUp ⟨up, at'⟩ ps false n)[q]? = some ((numsUp ⟨up, at'⟩ ps false n)[q]'(by rw [HUN.out]; exact hlt)) := List.getElem?_eq_getElem _
            obtain ⟨p, hp, hpn⟩ := numsUp_at hx
            rw [hp] at hx
            have hplen : (putRow (numsUp ⟨up, at'⟩ ps false n) nums q).length = m2 := by rw [putRow_len]; exact HUN.out
            have hcq := hPq.int_at hplen hlt
            rw [putRow_at hx] at hcq
            have hfq : wr.frozen? ⟨gN, q, none⟩ = false := hPq.frozen _
            obtain ⟨bn', on', y, eNA, hbn, hy, gy⟩ := HNB.out.int hpn (Below.refl _ _)
            injection eNA with eNA; injection eNA with eNA eNA2; subst eNA; subst eNA2
            have hbnM : bn ≠ gM ∧ bn ≠ gN := by omega
            have gyr : wr.cell? ⟨bn, on + p, none⟩ = some (.int .i64 y) := (hG1.cell_far ⟨bn, on + p, none⟩ (Nat.lt_of_lt_of_le hbn hG0.size) (by intro e; injection e with e; exact hbnM.2 e)).trans ((hG0.cell_far ⟨bn, on + p, none⟩ hbn (by intro e; injection e with e; exact hbnM.1 e)).trans gy)
            have hyv : nums.getD (p : Int).toNat 0 = y := by rw [Int.toNat_natCast, List.getD_eq_getElem?_getD, hy]; rfl
            have HX := Lib.hid hx; have HYV := Lib.hid hyv; have HP := Lib.hid hp
            clear hx hyv hp hy gy
            have hpI : (p : Int) < (n : Int) := by omega
            have hqI : (q : Int) < (m2 : Int) := by omega
            go_wp2_with fail
            go_region
            all_goals
              go_wp2_with fail
              go_roundw
              case rel => exact ⟨q + 1, by omega, by go_num, by rw [← putRow_succ HX.out, HYV.out]; exact hPq.int_set y, grown_drew (grownBy_trans hG1 (grown_put _ _ _ _))⟩
              case measure => simp [intOf]; omega
          · obtain rfl : m2 = q := by omega
            rw [putRow_all (Nat.le_of_eq HUN.out)] at hPq
            obtain ⟨u7, hwx⟩ : ∃ z, z = wr := ⟨_, rfl⟩
            subst hwx
            have hPN2 := hPq
            have hPM2 := hPM1.block (hG1.block gM hPM1.lt (fun e => by injection e with e; exact hMN e))
            obtain ⟨rp5, ro5, r85⟩ := HR5.out
            obtain ⟨hOA5, hOB5⟩ := HOW.out
            obtain ⟨dA1, dA2, dB1, dB2⟩ := HDI.out
            have hchg : ∀ g, g ≠ gM → g ≠ gN → g < w5.heap.size → u7.heap[g]? = w5.heap[g]? := fun g x y z => (hG1.block g (Nat.lt_of_lt_of_le z hG0.size) (fun e => by injection e with e; exact y e)).trans (hG0.block g z (fun e => by injection e with e; exact x e))
            have hBB : Below W.heap.size W u7 := (HB5.out.1.grown hG0 hs5 (fun g e => by injection e with e; omega)).grown hG1 (Nat.le_trans hs5 hG0.size) (fun g e => by injection e with e; omega)
            have hCB := HCP.out.below hBB
            have rpB := (hchg jp hnM.1 hnM.2.2.1 (heap_lt rp5)).trans rp5
            have roB := (hchg jo hnM.2.1 hnM.2.2.2 (heap_lt ro5)).trans ro5
            have r8B := (hchg j8 h8M.1 h8M.2 (heap_lt r85)).trans r85
            have hOAB := hOA5.apart2 hchg (fun g e => ⟨dis_ne dA1 e, dis_ne dA2 e⟩)
            have hOBB := hOB5.apart2 hchg (fun g e => ⟨dis_ne dB1 e, dis_ne dB2 e⟩)
            have hOMB : Own u7 w3.heap.size w4.heap.size (some ⟨gM, 0, none⟩) m1 1 (numsOf ⟨up, at'⟩ ps true nums n) intC := ⟨by have h1 := HNL.out.1; rw [HLEN.out] at h1; rw [h1]; exact HLEN12.out.1.symm, fun _ => ⟨gM, TM, rfl, hgM1, hgM2, hPM2⟩⟩
            have hONB : Own u7 w3.heap.size w4.heap.size (some ⟨gN, 0, none⟩) m2 1 (numsOf ⟨up, at'⟩ ps false nums n) intC := ⟨by have h1 := HNL.out.2; rw [HLEN.out] at h1; rw [h1]; exact HLEN12.out.2.symm, fun _ => ⟨gN, TN, rfl, hgN1, hgN2, hPN2⟩⟩
            have hszB := hBB.size
            have hw4B : w4.heap.size ≤ u7.heap.size := Nat.le_trans HB5.out.2.size (Nat.le_trans hG0.size hG1.size)
            clear hPq hPM1 hPN1 hPN2 hPM2 rp5 ro5 r85 hOA5 hOB5 dA1 dA2 dB1 dB2 hchg hor hocA
            have cu := cell_of_one hCB.self
            have cp0 : u7.cell? ⟨jp, 0, none⟩ = some (.int .i64 (wA w ⟨up, at'⟩)) := by rw [cell_of_row _ _ _ _ _ _ rpB]; rfl
            have cp1 : u7.cell? ⟨jp, 1, none⟩ = some (.int .i64 (hA h ⟨up, at'⟩)) := by rw [cell_of_row _ _ _ _ _ _ rpB]; rfl
            have cp2 : u7.cell? ⟨jp, 2, none⟩ = some (.slice A1 m1 c1) := by rw [cell_of_row _ _ _ _ _ _ rpB]; rfl
            have cp3 : u7.cell? ⟨jp, 3, none⟩ = some (.int .i64 (wB w ⟨up, at'⟩)) := by rw [cell_of_row _ _ _ _ _ _ rpB]; rfl
            have cp4 : u7.cell? ⟨jp, 4, none⟩ = some (.int .i64 (hB h ⟨up, at'⟩)) := by rw [cell_of_row _ _ _ _ _ _ rpB]; rfl
            have cp5 : u7.cell? ⟨jp, 5, none⟩ = some (.slice A2 m2 c2) := by rw [cell_of_row _ _ _ _ _ _ rpB]; rfl
            have co0 : u7.cell? ⟨jo, 0, none⟩ = some (.slice (some ⟨gM, 0, none⟩) m1 d1) := by rw [cell_of_row _ _ _ _ _ _ roB]; rfl
            go_wp2_with fail
            rw [Go.rounds_succ]
            go_wp2_with fail
            refine (ih _ _ _ m1 _ (partA ⟨up, at'⟩ ps) _ _ (numsOf ⟨up, at'⟩ ps true nums n) _ lo Bu Bo Bn N v js next hsA HPO.out.1 HSC.out.1 hOAB.rd hOMB.rd hCB (Nat.le_trans hlo hszB) hN0 hN1 hnx (by omega)).mono ?_
            rintro e w6 ⟨rfl, v1, hC6, hG6⟩
            obtain ⟨X, hX⟩ : ∃ x, Hid (joinsL ⟨wA w ⟨up, at'⟩, hA h ⟨up, at'⟩, partA ⟨up, at'⟩ ps⟩ (numsOf ⟨up, at'⟩ ps true nums n) next = x) := ⟨_, rfl⟩
            rw [hX.out] at hC6 ⊢
            have hxl : X.1.length + 1 ≤ m1 := by have h1 := joinsL_len ⟨wA w ⟨up, at'⟩, hA h ⟨up, at'⟩, partA ⟨up, at'⟩ ps⟩ (numsOf ⟨up, at'⟩ ps true nums n) next (by have := HPO.out.2.2.1; omega); rw [hX.out] at h1; have h3 := HLEN12.out.1; have h4 : X.1.length + 1 ≤ (partA ⟨up, at'⟩ ps).length := h1; omega
            have hvlt : ∀ g, v.ownBlock = some g → g < W.heap.size := fun g e => (HCP.out.acc.row e).2
            have hbo : Bo < W.heap.size := heap_lt HCP.out.out
            have hj8W := HJ8.out
            have hnj : jp ≠ Bo ∧ jo ≠ Bo ∧ j8 ≠ Bo := by omega
            have hvj : v.ownBlock ≠ some jp ∧ v.ownBlock ≠ some jo ∧ v.ownBlock ≠ some j8 := ⟨fun e => by have := hvlt _ e; omega, fun e => by have := hvlt _ e; omega, fun e => by have := hvlt _ e; omega⟩
            have rp6 := hG6.row rpB hnj.1 hvj.1
            have ro6 := hG6.row roB hnj.2.1 hvj.2.1
            have hOB6 := hG6.rd (hOBB.mono (Nat.le_refl _) hw4B) (Nat.lt_of_lt_of_le hbo hlo3) (fun g e => Nat.lt_of_lt_of_le (hvlt g e) hlo3)
            have hON6 := hG6.rd (hONB.mono (Nat.le_refl _) hw4B) (Nat.lt_of_lt_of_le hbo hlo3) (fun g e => Nat.lt_of_lt_of_le (hvlt g e) hlo3)
            have cu6 := cell_of_one hC6.self
            have cq3 : w6.cell? ⟨jp, 3, none⟩ = some (.int .i64 (wB w ⟨up, at'⟩)) := by rw [cell_of_row _ _ _ _ _ _ rp6]; rfl
            have cq4 : w6.cell? ⟨jp, 4, none⟩ = some (.int .i64 (hB h ⟨up, at'⟩)) := by rw [cell_of_row _ _ _ _ _ _ rp6]; rfl
            have cq5 : w6.cell? ⟨jp, 5, none⟩ = some (.slice A2 m2 c2) := by rw [cell_of_row _ _ _ _ _ _ rp6]; rfl
            have co6 : w6.cell? ⟨jo, 1, none⟩ = some (.slice (some ⟨gN, 0, none⟩) m2 d2) := by rw [cell_of_row _ _ _ _ _ _ ro6]; rfl
            have hs6 := hG6.size
            clear cu cp0 cp1 cp2 cp3 cp4 cp5 co0 hOAB hOMB hOBB hONB hCB rpB roB rp6 ro6
            go_wp2_with fail
            refine (ih _ _ _ m2 _ (partB ⟨up, at'⟩ ps) _ _ (numsOf ⟨up, at'⟩ ps false nums n) _ lo Bu Bo Bn N v1 (js ++ X.1) (next + (X.1.length : Int)) hsB HPO.out.2.1 HSC.out.2 hOB6.rd hON6.rd hC6 (Nat.le_trans hlo (Nat.le_trans hszB hs6)) hN0 hN1 (by rw [List.length_append]; omega) (by omega)).mono ?_
            rintro e w7 ⟨rfl, v2, hC7, hG7⟩
            obtain ⟨Y, hY⟩ : ∃ x, Hid (joinsL ⟨wB w ⟨up, at'⟩, hB h ⟨up, at'⟩, partB ⟨up, at'⟩ ps⟩ (numsOf ⟨up, at'⟩ ps false nums n) (next + (X.1.length : Int)) = x) := ⟨_, rfl⟩
            rw [hY.out] at hC7 ⊢
            have hyl : Y.1.length + 1 ≤ m2 := by have h1 := joinsL_len ⟨wB w ⟨up, at'⟩, hB h ⟨up, at'⟩, partB ⟨up, at'⟩ ps⟩ (numsOf ⟨up, at'⟩ ps false nums n) (next + (X.1.length : Int)) (by have := HPO.out.2.2.2; omega); rw [hY.out] at h1; have h3 := HLEN12.out.2; have h4 : Y.1.length + 1 ≤ (partB ⟨up, at'⟩ ps).length := h1; omega
            have hG67 := hG6.trans hG7
            have r87 := hG67.row r8B hnj.2.2 hvj.2.2
            have g0 : w7.cell? ⟨j8, 0, none⟩ = some (.bool up) := by rw [cell_of_row _ _ _ _ _ _ r87]; rfl
            have g1 : w7.cell? ⟨j8, 1, none⟩ = some (.int .i64 at') := by rw [cell_of_row _ _ _ _ _ _ r87]; rfl
            obtain ⟨hd1, hd2, hd3, hd4, hd5⟩ := hC7.diff
            have cO7 := cell_of_one hC7.out; have fO7 := free_of_one hC7.out
            have cN7 := cell_of_one hC7.num
            have hlo7 : lo ≤ w7.heap.size := Nat.le_trans hlo (Nat.le_trans hszB hG67.size)
            have hbo7 := heap_lt hC7.out
            have hacc := hC7.acc
            have HJ0 := Lib.hid (HJC.out X Y (by show joinsL ⟨wA w ⟨up, at'⟩, hA h ⟨up, at'⟩, partA ⟨up, at'⟩ ps⟩ (numsOf ⟨up, at'⟩ ps true nums ps.length) next = X; rw [HLEN.out]; exact hX.out) (by show joinsL ⟨wB w ⟨up, at'⟩, hB h ⟨up, at'⟩, partB ⟨up, at'⟩ ps⟩ (numsOf ⟨up, at'⟩ ps false nums ps.length) (next + (X.1.length : Int)) = Y; rw [HLEN.out]; exact hY.out))
            have hll : (js ++ X.1 ++ Y.1).length + 1 ≤ 4294967296 := by simp; omega
            clear cu6 cq3 cq4 cq5 co6 hOB6 hON6 hC6 r87 r8B
            go_wp2_with (first | rw [hw9.out] | (at_builtin; refine wpList_acc1 rfl _ _ 49 rfl lo 76 (.agg #[.bool false, .int .i64 0, .int .i64 0]) 3 24 Try.underlying49 infoJoin2 rfl (by omega) _ (js ++ X.1 ++ Y.1) joinC ⟨up, X.2, Y.2⟩ rfl hacc _ _ rfl _ rfl (by simp) rfl (joinC_one2 _) hll (by omega) hlo7 ?_; intro v8 w8 hacc8 hgrow8 hat8; obtain ⟨J8, k8, rfl, hk8, hO8⟩ := hacc8.own joinC_len; obtain ⟨L8, hL8⟩ : ∃ m, Hid ((js ++ X.1 ++ Y.1 ++ [(⟨up, X.2, Y.2⟩ : Join)]).length = m) := ⟨_, rfl⟩; rw [hL8.out] at hacc8 hat8 ⊢; have hL8e : L8 = js.length + X.1.length + Y.1.length + 1 := (by rw [← hL8.out]; simp; omega); have HL8 := Lib.hid hL8e; have hwn : IntKind.i64.wrap (N + (L8 : Int)) = N + (L8 : Int) := (by rw [IntKind.wrap_i64]; omega); have hwn2 : IntKind.i64.wrap (N + (L8 : Int) - 1) = N + (L8 : Int) - 1 := (by rw [IntKind.wrap_i64]; omega); clear hL8e; have cO8 := (hgrow8.cell_far ⟨Bo, 0, none⟩ hbo7 (fun e => hd4 e.symm)).trans cO7; have fO8 := (hgrow8.frozen_far ⟨Bo, 0, none⟩ hbo7 (fun e => hd4 e.symm)).trans fO7; have ho8 := (hgrow8.block Bo hbo7 (fun e => hd4 e.symm)).trans hC7.out; have hn8 := (hgrow8.block Bn (heap_lt hC7.num) (fun e => hd5 e.symm)).trans hC7.num; have hu8 := (hgrow8.block Bu (heap_lt hC7.self) (fun e => hd3 e.symm)).trans hC7.self; have ho9 := row_set (o := 0) (.slice J8 L8 k8) ho8; have hn9 := (row_far (w := w8) (b := Bo) (o := 0) (.slice J8 L8 k8) hd2).trans hn8; have hu9 := (row_far (w := w8) (b := Bo) (o := 0) (.slice J8 L8 k8) hd1).trans hu8; have hne8 : (Value.slice J8 L8 k8).ownBlock ≠ some Bo := (fun e => by rcases hat8 with h1 | h1 <;> rw [h1] at e; exact hd4 e; injection e with e; omega); have hacc9 := hacc8.far hne8 0 (.slice J8 L8 k8); have hG9 := (Grew.of_grown hgrow8 hat8 (Nat.le_succ _) Bo).set 0 (.slice J8 L8 k8); obtain ⟨w9, hw9⟩ : ∃ z, Hid (w8.setCell ⟨Bo, 0, none⟩ (.slice J8 L8 k8) = z) := ⟨_, rfl⟩; rw [hw9.out] at ho9 hn9 hu9 hacc9 hG9; have cO9 := cell_of_one ho9; have cN9 := cell_of_one hn9))
            go_ret
            refine ⟨ret_i ?_, .slice J8 L8 k8, ⟨hu9, ho9, hn9, ?_⟩, (Grew.of_below hBB Bo v).trans (hG67.trans hG9)⟩
            · rw [HJ0.out]; have := HL8.out; simp only; omega
            · rw [HJ0.out]; have e9 : js ++ (X.1 ++ Y.1 ++ [(⟨up, X.2, Y.2⟩ : Join)]) = js ++ X.1 ++ Y.1 ++ [(⟨up, X.2, Y.2⟩ : Join)] := by simp
              show Acc w9 lo _ 3 _ (js ++ (X.1 ++ Y.1 ++ [(⟨up, X.2, Y.2⟩ : Join)])) joinC
              rw [e9]; exact hacc9

end Go.Proofs.Ytmjdgplkcocgmaa
