/-
  Contract: the joins of a part, by the reference.
-/
import Derived.Test.YtmjdgplkcocgmaaJoiA
import Derived.Test.YtmjdgplkcocgmaaZWords
import Derived.Test.YtmjdgplkcocgmaaFlatJoin
import Derived.Test.YtmjdgplkcocgmaaKnoE
import Derived.Deep.DeepCutAuto
set_option linter.unusedVariables false
set_option linter.unusedSimpArgs false
namespace Go.Proofs.Ytmjdgplkcocgmaa
open Go.RowKit

theorem infoJoin : (Try.prog.info? 76).map (fun i => (i.zero, i.size, i.bytes)) = some (some (.agg #[.bool false, .int .i64 0, .int .i64 0]), 3, 24) := by kernel_rfl
theorem joinC_one (x : Join) : ∀ u ∈ joinC x, u.oneCell' = true := fun u hu => by
  simp [joinC] at hu
  rcases hu with rfl | rfl | rfl <;> rfl
theorem keep4 {w w' : World} {a0 a1 a2 a3 : Addr} {u0 u1 u2 u3 : Value} (h : w.cell? a0 = some u0 ∧ w.cell? a1 = some u1 ∧ w.cell? a2 = some u2 ∧ w.cell? a3 = some u3) (hb : Below w.heap.size w w') : w'.cell? a0 = some u0 ∧ w'.cell? a1 = some u1 ∧ w'.cell? a2 = some u2 ∧ w'.cell? a3 = some u3 :=
  ⟨keepcell h.1 hb, keepcell h.2.1 hb, keepcell h.2.2.1 hb, keepcell h.2.2.2 hb⟩
def JoinsOut (W : World) (js : List Join) (u : Int) (ok : Bool) (e : Ending) (w' : World) : Prop :=
  ∃ J p q, e = .returned (.tuple #[.slice J p q, .int .i64 u, .bool ok]) ∧ p ≤ q ∧ Own w' W.heap.size w'.heap.size J p 3 js joinC ∧ Below W.heap.size W w'
theorem joinsOut_of {W w' : World} {js js' : List Join} {u u' : Int} {ok ok' : Bool} {J : Option Addr} {p q : Nat} (h1 : js = js') (h2 : u = u') (h3 : ok = ok') (hpq : p ≤ q) (hO : Own w' W.heap.size w'.heap.size J p 3 js' joinC) (hb : Below W.heap.size W w') :
    JoinsOut W js u ok (.returned (.tuple #[.slice J p q, .int .i64 u', .bool ok'])) w' := by
  subst h1 h2 h3
  exact ⟨J, p, q, rfl, hpq, hO, hb⟩
theorem joinsOut_no {W w' : World} {l : Lay} {nums : List Int} {next : Int} {J : Option Addr} (h : canSew l = false) (hb : Below W.heap.size W w') :
    JoinsOut W (joinsL l nums next).1 (joinsL l nums next).2 (canSew l) (.returned (.tuple #[.slice J 0 0, .int .i64 0, .bool false])) w' :=
  joinsOut_of (by rw [joins_no h]) (by rw [joins_no h]) h (Nat.le_refl _) (Own.nil _ _ _ _ _ _) hb

set_option maxRecDepth 100000 in
set_option maxHeartbeats 40000000 in
theorem joinsS_N : ∀ (f : Nat) (w h : Int) (A : Option Addr) (n c : Nat) (ps : List Patch) (NA : Option Addr) (d : Nat) (nums : List Int) (next : Int) (W : World), ps.length ≤ f → layoutOk w h ps = true → Rd W A n 5 ps patchC → Rd W NA n 1 nums intC → 0 ≤ next → next + (n : Int) ≤ 1000 →
    Calls Try.prog 89 #[.agg #[.int .i64 w, .int .i64 h, .slice A n c], .slice NA n d, .int .i64 next] W (JoinsOut W (joinsL ⟨w, h, ps⟩ nums next).1 (joinsL ⟨w, h, ps⟩ nums next).2 (canSew ⟨w, h, ps⟩)) := by
  intro f
  induction f with
  | zero => intro w h A n c ps NA d nums next W hf hl; exact absurd (layout_parts hl).2.2.1.1 (by omega)
  | succ f ih =>
    intro w h A n c ps NA d nums next W hf hl hR hNu hx0 hx1
    have HLEN := Lib.hid hR.len
    have hn12 := (layout_parts hl).2.2.1
    rw [HLEN.out] at hn12
    have hN : n ≤ 1048576 := by omega
    have HL := Lib.hid hl; clear hl
    obtain ⟨jb, hjb⟩ : ∃ j, Hid (W.heap.size = j) := ⟨_, rfl⟩
    obtain ⟨wa, hwa⟩ : ∃ v, Hid (W.alloc (.cells #[.int .i64 w, .int .i64 h, .slice A n c] 30) = v) := ⟨_, rfl⟩
    have e0 : wa.cell? ⟨jb, 0, none⟩ = some (.int .i64 w) := by rw [← hwa.out, ← hjb.out, cell_of_row _ _ _ _ _ _ (heap_alloc_new W _)]; rfl
    have e1 : wa.cell? ⟨jb, 1, none⟩ = some (.int .i64 h) := by rw [← hwa.out, ← hjb.out, cell_of_row _ _ _ _ _ _ (heap_alloc_new W _)]; rfl
    have e2 : wa.cell? ⟨jb, 2, none⟩ = some (.slice A n c) := by rw [← hwa.out, ← hjb.out, cell_of_row _ _ _ _ _ _ (heap_alloc_new W _)]; rfl
    have ba : Below W.heap.size W wa := by rw [← hwa.out]; exact (Below.refl _ _).alloc (Nat.le_refl _) _
    have hRa := hR.below ba; have hNa := hNu.below ba
    clear hR hNu
    by_cases hn1 : n = 1
    · have HJ := Lib.hid (joins_one (l := ⟨w, h, ps⟩) HL.out (by show ps.length = 1; rw [HLEN.out]; exact hn1) nums next)
      have HS := Lib.hid (sew_one (l := ⟨w, h, ps⟩) HL.out (by show ps.length = 1; rw [HLEN.out]; exact hn1))
      subst hn1
      rw [HJ.out, ← HS.out]
      obtain ⟨b, off, x, rfl, hbW, hy, q0⟩ := hNa.int (k := 0) (by omega) (Below.refl _ _)
      rw [Nat.add_zero] at q0
      have hg : nums.getD 0 0 = x := by simp [hy]
      rw [hg]
      clear hg hy hRa hNa
      have HBA := Lib.hid ba; clear ba
      go_enter Try.func89, Try.ntmps89
      go_wp2_with (first | rw [hwa.out] | rw [hjb.out])
      go_region_held3 (fun v => v.cell? ⟨b, off, none⟩ = some (.int .i64 x)) (go_keep) (fail)
      all_goals
        go_wp2
        exact bodyPost_ret (v := .tuple #[.slice (some ⟨wa.heap.size, 0, none⟩) 0 0, .int .i64 x, .bool true]) (by simp [results, Try.results89, go_sem]) rfl ⟨_, 0, 0, rfl, Nat.le_refl _, Own.nil _ _ _ _ _ _, HBA.out.trans (Below.mono (B := wa.heap.size) (by (repeat (first | exact Below.refl _ _ | assumption | (refine Below.drew ?_) | (refine below_drewN ?_ _) | (refine Below.alloc ?_ (by first | exact Nat.le_refl _ | (simp; done) | (simp; omega) | omega) _) | (refine Below.setCell ?_ (by first | exact Nat.le_refl _ | (simp; done) | (simp; omega) | omega) _) | (refine Below.trans ?_ (Below.mono (by assumption) (by first | exact Nat.le_refl _ | (simp; done) | (simp; omega) | omega)))))) HBA.out.size)⟩
    have hn1' : ((n : Int) == 1) = false := by rw [beq_eq_false_iff_ne]; omega
    have hn1n : ¬ (n : Int) = 1 := by omega
    have HN1 := Lib.hid (show ps.length ≠ 1 by rw [HLEN.out]; exact hn1)
    clear hn1
    go_enter Try.func89, Try.ntmps89
    go_wp2_with (first | rw [hwa.out] | rw [hjb.out])
    refine (cutsOfS_any _ _ _ _ _ ps _ hRa hN).mono ?_
    rintro e w2 ⟨C2, k2, rfl, hk2, hO2, hb2⟩
    replace e0 := keepcell e0 hb2
    replace e1 := keepcell e1 hb2
    replace e2 := keepcell e2 hb2
    have hB2 := ba.trans (hb2.mono ba.size)
    have hs2 := hB2.size
    have hR2 := hRa.below hb2; have hN2 := hNa.below hb2
    clear hb2 ba hRa hNa hn1' hn1n
    have hCR := hO2.rd
    clear hO2
    rcases hcs : cutsOf w h ps with _ | ⟨ct, cs⟩
    · have HS := Lib.hid (sew_knot (l := ⟨w, h, ps⟩) HL.out HN1.out hcs)
      rw [hcs] at hCR
      go_wp2
      exact bodyPost_ret (v := .tuple #[.slice (some ⟨w2.heap.size, 0, none⟩) 0 0, .int .i64 0, .bool false]) (by simp [results, Try.results89, go_sem]) rfl (joinsOut_no HS.out.symm (hB2.trans (Below.mono (B := w2.heap.size) (by (repeat (first | exact Below.refl _ _ | assumption | (refine Below.drew ?_) | (refine below_drewN ?_ _) | (refine Below.alloc ?_ (by first | exact Nat.le_refl _ | (simp; done) | (simp; omega) | omega) _) | (refine Below.setCell ?_ (by first | exact Nat.le_refl _ | (simp; done) | (simp; omega) | omega) _) | (refine Below.trans ?_ (Below.mono (by assumption) (by first | exact Nat.le_refl _ | (simp; done) | (simp; omega) | omega)))))) hs2)))
    rw [hcs] at hCR
    obtain ⟨m, hm⟩ : ∃ m, Hid ((ct :: cs).length = m) := ⟨_, rfl⟩
    have hm0 : 0 < m := by rw [← hm.out]; simp
    rw [hm.out] at hCR ⊢
    have hmI : (0 : Int) < (m : Int) := by omega
    have hmz : ((m : Int) == 0) = false := by rw [beq_eq_false_iff_ne]; omega
    have hmz' : ¬ m = 0 := by omega
    obtain ⟨b, off, x, rfl, hbW, hx, q0, q1⟩ := hCR.cut hm0 (Below.refl _ _)
    have hxe : x = ct := by simpa using hx.symm
    subst hxe
    clear hx
    obtain ⟨up, at'⟩ := x
    simp only [Nat.zero_mul, Nat.add_zero] at q0 q1
    have hk : isCut w h ps ⟨up, at'⟩ = true := mem_cuts.1 (by rw [hcs]; simp)
    have HK := Lib.hid hk
    have HC := Lib.hid (sew_cut (l := ⟨w, h, ps⟩) HL.out HN1.out hcs)
    have HJC := Lib.hid (fun kA kB X Y hx hy => joins_cut (l := ⟨w, h, ps⟩) HL.out HN1.out hcs kA kB nums next X Y hx hy)
    have hsm := cut_smaller (l := ⟨w, h, ps⟩) hk
    have hsA : (partA ⟨up, at'⟩ ps).length ≤ f := by have h9 := hsm.1; have : (partA ⟨up, at'⟩ ps).length < ps.length := h9; omega
    have hsB : (partB ⟨up, at'⟩ ps).length ≤ f := by have h9 := hsm.2; have : (partB ⟨up, at'⟩ ps).length < ps.length := h9; omega
    have HPO := Lib.hid (parts_ok hk)
    have HLS := Lib.hid (len_split ⟨up, at'⟩ ps)
    have HNL := Lib.hid (numsA_all ⟨up, at'⟩ ps nums)
    clear hk hsm hcs hCR
    go_upto_region 6 with fail
    have HR2 := Lib.hid hR2; have HN2 := Lib.hid hN2; have HB2W := Lib.hid hB2
    go_cut [10, 11, 12] (fun s10 s11 s12 wx => ∃ (ja jd : Nat) (A1 : Option Addr) (n1 c1 : Nat) (A2 : Option Addr) (n2 c2 : Nat), s10 = .pointer (some ⟨ja, 0, none⟩) ∧ s11 = .pointer (some ⟨jd, 0, none⟩) ∧ s12 = .bool true ∧ wx.cell? ⟨ja, 0, none⟩ = some (.int .i64 (wA w ⟨up, at'⟩)) ∧ wx.cell? ⟨ja, 1, none⟩ = some (.int .i64 (hA h ⟨up, at'⟩)) ∧ wx.cell? ⟨ja, 2, none⟩ = some (.slice A1 n1 c1) ∧ wx.cell? ⟨jd, 0, none⟩ = some (.int .i64 (wB w ⟨up, at'⟩)) ∧ wx.cell? ⟨jd, 1, none⟩ = some (.int .i64 (hB h ⟨up, at'⟩)) ∧ wx.cell? ⟨jd, 2, none⟩ = some (.slice A2 n2 c2) ∧ Rd wx A1 n1 5 (partA ⟨up, at'⟩ ps) patchC ∧ Rd wx A2 n2 5 (partB ⟨up, at'⟩ ps) patchC ∧ Below w2.heap.size w2 wx)
    case first =>
      clear hB2 hs2
      have hs2 : w2.heap.size ≤ w2.heap.size := Nat.le_refl _
      have hB2 : Below w2.heap.size w2 w2 := Below.refl _ _
      clear hN2
      have hjbw : jb < w2.heap.size := by have h1 := hjb.out; have h2 := block_lt_of_cell e0; exact h2
      have HB2 := Lib.hid hB2
      refine wp_region_held_drew (S := (fun v => v.cell? ⟨jb, 0, none⟩ = some (.int .i64 w) ∧ v.cell? ⟨jb, 1, none⟩ = some (.int .i64 h) ∧ v.cell? ⟨jb, 2, none⟩ = some (.slice A n c) ∧ v.cell? ⟨b, off, none⟩ = some (.bool up) ∧ v.cell? ⟨b, off + 1, none⟩ = some (.int .i64 at'))) (by kernel_rfl) ⟨keep_drew e0, keep_drew e1, keep_drew e2, keep_drew q0, keep_drew q1⟩ (fun hHeld => ?_)
      have hB0 : Below w2.heap.size w2 (World.drew w2) := hB2.drew
      have hR0 : Rd (World.drew w2) A n 5 ps patchC := hR2
      have hb0 : b < (World.drew w2).heap.size := hbW
      have hj0 : jb < (World.drew w2).heap.size := hjbw
      have hs0 : w2.heap.size ≤ (World.drew w2).heap.size := hs2
      obtain ⟨v0, hv0⟩ : ∃ v, Hid (World.drew w2 = v) := ⟨_, rfl⟩
      rw [hv0.out] at hHeld hB0 hR0 hb0 hj0 hs0 ⊢
      clear e0 e1 e2 q0 q1 hR2 hB2 hbW hjbw hs2
      (refine take_yes (i := 0) (d := some 39) (v := ?_) rfl rfl (by kernel_rfl) (by kernel_rfl) (by kernel_rfl) (by rfl) (fun _ _ _ h => h) ?_ (by assumption) ?_; rotate_left; focus ((intro w' hSw; (try dsimp only at hSw); go_simp) <;> with_reducible rfl)); (try simp only [Act.put, List.setIfInBounds_toArray, List.set_cons_zero, List.set_cons_succ])
      (refine take_yes (i := 1) (d := some 40) (v := ?_) rfl rfl (by kernel_rfl) (by kernel_rfl) (by kernel_rfl) (by rfl) (fun _ _ _ h => h) ?_ (by assumption) ?_; rotate_left; focus ((intro w' hSw; (try dsimp only at hSw); go_simp) <;> with_reducible rfl)); (try simp only [Act.put, List.setIfInBounds_toArray, List.set_cons_zero, List.set_cons_succ])
      (refine take_yes (i := 2) (d := some 41) (v := ?_) rfl rfl (by kernel_rfl) (by kernel_rfl) (by kernel_rfl) (by rfl) (fun _ _ _ h => h) ?_ (by assumption) ?_; rotate_left; focus ((intro w' hSw; (try dsimp only at hSw); go_simp) <;> with_reducible rfl)); (try simp only [Act.put, List.setIfInBounds_toArray, List.set_cons_zero, List.set_cons_succ])
      (refine take_yes (i := 3) (d := some 42) (v := ?_) rfl rfl (by kernel_rfl) (by kernel_rfl) (by kernel_rfl) (by rfl) (fun _ _ _ h => h) ?_ (by assumption) ?_; rotate_left; focus ((intro w' hSw; (try dsimp only at hSw); go_simp) <;> with_reducible rfl)); (try simp only [Act.put, List.setIfInBounds_toArray, List.set_cons_zero, List.set_cons_succ])
      refine wpAnyH_ready (rs := [4, 9, 10]) (by kernel_rfl) (by simp) ?_
      refine AllReadyH.cons (o := _) rfl (fun K hK => ?_) (AllReadyH.cons (o := _) rfl (fun K hK => ?_) (AllReadyH.cons (o := _) rfl (fun K hK => ?_) AllReadyH.nil))
      · go_simp
        refine (splitS_any w h A n c ps up at' _ hR0 hN HK.out).mono ?_
        rintro e v1 ⟨A1, n1, c1, A2, n2, c2, rfl, hPA, hPB, bb1⟩
        have hlo1 := bb1.size
        refine hK.out _ _ (keep5 hHeld bb1) (fun hHeld => ?_)
        clear hK K; (try simp only [Act.put, List.setIfInBounds_toArray, List.set_cons_zero, List.set_cons_succ])
        have R1 := hR0.below bb1
        have B1 := hB0.trans (bb1.mono hs0)
        have S1 := B1.size
        have Q1 : Hid (v0.heap.size ≤ v1.heap.size) := bb1.size
        clear bb1 hlo1
        (refine take_yes (i := 5) (d := some 38) (v := ?_) rfl rfl (by kernel_rfl) (by kernel_rfl) (by kernel_rfl) (by rfl) (fun _ _ _ h => h) ?_ (by assumption) ?_; rotate_left; focus ((intro w' hSw; (try dsimp only at hSw); go_simp) <;> with_reducible rfl)); (try simp only [Act.put, List.setIfInBounds_toArray, List.set_cons_zero, List.set_cons_succ])
        (refine take_yes (i := 6) (d := some 44) (v := ?_) rfl rfl (by kernel_rfl) (by kernel_rfl) (by kernel_rfl) (by rfl) (fun _ _ _ h => h) ?_ (by assumption) ?_; rotate_left; focus ((intro w' hSw; (try dsimp only at hSw); go_simp) <;> with_reducible rfl)); (try simp only [Act.put, List.setIfInBounds_toArray, List.set_cons_zero, List.set_cons_succ])
        (refine take_yes (i := 7) (d := some 45) (v := ?_) rfl rfl (by kernel_rfl) (by kernel_rfl) (by kernel_rfl) (by rfl) (fun _ _ _ h => h) ?_ (by assumption) ?_; rotate_left; focus ((intro w' hSw; (try dsimp only at hSw); go_simp) <;> with_reducible rfl)); (try simp only [Act.put, List.setIfInBounds_toArray, List.set_cons_zero, List.set_cons_succ])
        (refine take_yes (i := 8) (d := some 46) (v := ?_) rfl rfl (by kernel_rfl) (by kernel_rfl) (by kernel_rfl) (by rfl) (fun _ _ _ h => h) ?_ (by assumption) ?_; rotate_left; focus ((intro w' hSw; (try dsimp only at hSw); go_simp) <;> with_reducible rfl)); (try simp only [Act.put, List.setIfInBounds_toArray, List.set_cons_zero, List.set_cons_succ])
        refine wpAnyH_ready (rs := [9, 10]) (by kernel_rfl) (by simp) ?_
        refine AllReadyH.cons (o := _) rfl (fun K hK => ?_) (AllReadyH.cons (o := _) rfl (fun K hK => ?_) AllReadyH.nil)
        · go_simp
          obtain ⟨ja, hja⟩ : ∃ j, Hid (v1.heap.size = j) := ⟨_, rfl⟩
          obtain ⟨v2, hv2⟩ : ∃ v, Hid (v1.alloc (.cells #[.int .i64 0, .int .i64 0, .slice none 0 0] 30) = v) := ⟨_, rfl⟩
          have ra : v2.heap[ja]? = some (.cells #[.int .i64 0, .int .i64 0, .slice none 0 0] 30 (0, 0)) := by rw [← hv2.out, ← hja.out]; exact heap_alloc_new v1 _
          have bb2 : Below v1.heap.size v1 v2 := by rw [← hv2.out]; exact (Below.refl _ _).alloc (Nat.le_refl _) _
          have za : v1.heap.size = ja ∧ v2.heap.size = ja + 1 := by rw [← hv2.out, ← hja.out]; simp
          have Za := Lib.hid za
          rw [hv2.out, hja.out]
          refine hK.out _ _ (keep5 hHeld bb2) (fun hHeld => ?_)
          clear hK K; (try simp only [Act.put, List.setIfInBounds_toArray, List.set_cons_zero, List.set_cons_succ])
          have R2 := R1.below bb2
          have B2 := B1.trans (bb2.mono S1)
          have S2 := B2.size
          have hPA := hPA.below bb2
          have hPB := hPB.below bb2
          have Q2 : Hid (v1.heap.size ≤ v2.heap.size) := bb2.size
          clear bb2 za
          refine wpAnyH_ready (rs := [10]) (by kernel_rfl) (by simp) ?_
          refine AllReadyH.cons (o := _) rfl (fun K hK => ?_) AllReadyH.nil
          · go_simp
            obtain ⟨jd, hjd⟩ : ∃ j, Hid (v2.heap.size = j) := ⟨_, rfl⟩
            obtain ⟨v3, hv3⟩ : ∃ v, Hid (v2.alloc (.cells #[.int .i64 0, .int .i64 0, .slice none 0 0] 30) = v) := ⟨_, rfl⟩
            have rd : v3.heap[jd]? = some (.cells #[.int .i64 0, .int .i64 0, .slice none 0 0] 30 (0, 0)) := by rw [← hv3.out, ← hjd.out]; exact heap_alloc_new v2 _
            have bb3 : Below v2.heap.size v2 v3 := by rw [← hv3.out]; exact (Below.refl _ _).alloc (Nat.le_refl _) _
            have zd : v2.heap.size = jd ∧ v3.heap.size = jd + 1 := by rw [← hv3.out, ← hjd.out]; simp
            have Zd := Lib.hid zd
            rw [hv3.out, hjd.out]
            refine hK.out _ _ (keep5 hHeld bb3) (fun hHeld => ?_)
            clear hK K; (try simp only [Act.put, List.setIfInBounds_toArray, List.set_cons_zero, List.set_cons_succ])
            have R3 := R2.below bb3
            have B3 := B2.trans (bb3.mono S2)
            have S3 := B3.size
            have ra := (bb3.block ja (by have := Za.out; have := Q1.out; have := Q2.out; omega)).trans ra
            have hPA := hPA.below bb3
            have hPB := hPB.below bb3
            have Q3 : Hid (v2.heap.size ≤ v3.heap.size) := bb3.size
            clear bb3 zd
            have N : Hid (¬ jb = ja ∧ ¬ jb = jd ∧ ¬ b = ja ∧ ¬ b = jd ∧ ¬ ja = jd ∧ w2.heap.size ≤ ja ∧ w2.heap.size ≤ jd) := by have h1 := Za.out; have h2 := Zd.out; have h3 := Q1.out; have h4 := Q2.out; have h5 := Q3.out; refine ⟨?_, ?_, ?_, ?_, ?_, ?_, ?_⟩ <;> omega
            have NA : Hid ((ja < v0.heap.size ∨ v1.heap.size ≤ ja) ∧ (jd < v0.heap.size ∨ v1.heap.size ≤ jd)) := by have h1 := Za.out; have h2 := Zd.out; have h3 := Q1.out; have h4 := Q2.out; have h5 := Q3.out; refine ⟨?_, ?_⟩ <;> omega
            obtain ⟨n1_, n2_, n3_, n4_, n5_, n6_, n7_⟩ := N.out
            obtain ⟨na_, nd_⟩ := NA.out
            have hn1_ := hPA.len
            have hn2_ := hPB.len
            have HLA := Lib.hid hn1_
            have HLB := Lib.hid hn2_
            clear hn1_ hn2_
            have sa0 : v3.cell? ⟨ja, 0, none⟩ = some (.int .i64 0) := by rw [cell_of_row _ _ _ _ _ _ ra]; rfl
            have ga0 : v3.frozen? ⟨ja, 0, none⟩ = false := frozen_of_row _ _ _ _ _ ra
            have sa1 : v3.cell? ⟨ja, 1, none⟩ = some (.int .i64 0) := by rw [cell_of_row _ _ _ _ _ _ ra]; rfl
            have ga1 : v3.frozen? ⟨ja, 1, none⟩ = false := frozen_of_row _ _ _ _ _ ra
            have sa2 : v3.cell? ⟨ja, 2, none⟩ = some (.slice none 0 0) := by rw [cell_of_row _ _ _ _ _ _ ra]; rfl
            have ga2 : v3.frozen? ⟨ja, 2, none⟩ = false := frozen_of_row _ _ _ _ _ ra
            obtain ⟨v4, hv4⟩ : ∃ v, Hid ((((v3.setCell ⟨ja, 0, none⟩ (.int .i64 (wA w ⟨up, at'⟩))).setCell ⟨ja, 1, none⟩ (.int .i64 (hA h ⟨up, at'⟩))).setCell ⟨ja, 2, none⟩ (.slice A1 n1 c1)) = v) := ⟨_, rfl⟩
            refine wpAnyH_ready (rs := [11]) (by kernel_rfl) (by simp) ?_; refine AllReadyH.cons (o := _) rfl (fun K hK => ?_) AllReadyH.nil; go_simp
            rw [hv4.out]
            have ta := row_set (o := 2) (.slice A1 n1 c1) (row_set (o := 1) (.int .i64 (hA h ⟨up, at'⟩)) (row_set (o := 0) (.int .i64 (wA w ⟨up, at'⟩)) ra))
            rw [hv4.out] at ta
            have hfara : ∀ g, g ≠ ja → v4.heap[g]? = v3.heap[g]? := fun g hg => by rw [← hv4.out, row_far _ hg, row_far _ hg, row_far _ hg]
            refine hK.out _ _ ⟨cell_blk hHeld.1 (hfara jb n1_), cell_blk hHeld.2.1 (hfara jb n1_), cell_blk hHeld.2.2.1 (hfara jb n1_), cell_blk hHeld.2.2.2.1 (hfara b n3_), cell_blk hHeld.2.2.2.2 (hfara b n3_)⟩ (fun hHeld => ?_)
            clear hK K; (try simp only [Act.put, List.setIfInBounds_toArray, List.set_cons_zero, List.set_cons_succ])
            clear sa0 sa1 sa2 ga0 ga1 ga2
            have hPA := own_set (own_set (own_set hPA na_ 0 (.int .i64 (wA w ⟨up, at'⟩))) na_ 1 (.int .i64 (hA h ⟨up, at'⟩))) na_ 2 (.slice A1 n1 c1)
            have hPB := own_set (own_set (own_set hPB na_ 0 (.int .i64 (wA w ⟨up, at'⟩))) na_ 1 (.int .i64 (hA h ⟨up, at'⟩))) na_ 2 (.slice A1 n1 c1)
            rw [hv4.out] at hPA hPB
            have BB := below_set (below_set (below_set B3 n6_ (o := 0) (.int .i64 (wA w ⟨up, at'⟩))) n6_ (o := 1) (.int .i64 (hA h ⟨up, at'⟩))) n6_ (o := 2) (.slice A1 n1 c1)
            rw [hv4.out] at BB
            have rd := (hfara jd (fun e => n5_ e.symm)).trans rd
            have sd0 : v4.cell? ⟨jd, 0, none⟩ = some (.int .i64 0) := by rw [cell_of_row _ _ _ _ _ _ rd]; rfl
            have gd0 : v4.frozen? ⟨jd, 0, none⟩ = false := frozen_of_row _ _ _ _ _ rd
            have sd1 : v4.cell? ⟨jd, 1, none⟩ = some (.int .i64 0) := by rw [cell_of_row _ _ _ _ _ _ rd]; rfl
            have gd1 : v4.frozen? ⟨jd, 1, none⟩ = false := frozen_of_row _ _ _ _ _ rd
            have sd2 : v4.cell? ⟨jd, 2, none⟩ = some (.slice none 0 0) := by rw [cell_of_row _ _ _ _ _ _ rd]; rfl
            have gd2 : v4.frozen? ⟨jd, 2, none⟩ = false := frozen_of_row _ _ _ _ _ rd
            obtain ⟨v5, hv5⟩ : ∃ v, Hid ((((v4.setCell ⟨jd, 0, none⟩ (.int .i64 (wB w ⟨up, at'⟩))).setCell ⟨jd, 1, none⟩ (.int .i64 (hB h ⟨up, at'⟩))).setCell ⟨jd, 2, none⟩ (.slice A2 n2 c2)) = v) := ⟨_, rfl⟩
            refine wpAnyH_ready (rs := [12]) (by kernel_rfl) (by simp) ?_; refine AllReadyH.cons (o := _) rfl (fun K hK => ?_) AllReadyH.nil; go_simp
            rw [hv5.out]
            have td := row_set (o := 2) (.slice A2 n2 c2) (row_set (o := 1) (.int .i64 (hB h ⟨up, at'⟩)) (row_set (o := 0) (.int .i64 (wB w ⟨up, at'⟩)) rd))
            rw [hv5.out] at td
            have hfard : ∀ g, g ≠ jd → v5.heap[g]? = v4.heap[g]? := fun g hg => by rw [← hv5.out, row_far _ hg, row_far _ hg, row_far _ hg]
            refine hK.out _ _ ⟨cell_blk hHeld.1 (hfard jb n2_), cell_blk hHeld.2.1 (hfard jb n2_), cell_blk hHeld.2.2.1 (hfard jb n2_), cell_blk hHeld.2.2.2.1 (hfard b n4_), cell_blk hHeld.2.2.2.2 (hfard b n4_)⟩ (fun hHeld => ?_)
            clear hK K; (try simp only [Act.put, List.setIfInBounds_toArray, List.set_cons_zero, List.set_cons_succ])
            clear sd0 sd1 sd2 gd0 gd1 gd2
            have hPA := own_set (own_set (own_set hPA nd_ 0 (.int .i64 (wB w ⟨up, at'⟩))) nd_ 1 (.int .i64 (hB h ⟨up, at'⟩))) nd_ 2 (.slice A2 n2 c2)
            have hPB := own_set (own_set (own_set hPB nd_ 0 (.int .i64 (wB w ⟨up, at'⟩))) nd_ 1 (.int .i64 (hB h ⟨up, at'⟩))) nd_ 2 (.slice A2 n2 c2)
            rw [hv5.out] at hPA hPB
            have BB := below_set (below_set (below_set BB n7_ (o := 0) (.int .i64 (wB w ⟨up, at'⟩))) n7_ (o := 1) (.int .i64 (hB h ⟨up, at'⟩))) n7_ (o := 2) (.slice A2 n2 c2)
            rw [hv5.out] at BB
            have ra := (hfard ja n5_).trans ta
            have rd := td
            (refine take_yes (i := 13) (d := some 12) (v := ?_) rfl rfl (by kernel_rfl) (by kernel_rfl) (by kernel_rfl) (by rfl) (fun _ _ _ h => h) ?_ (by assumption) ?_; rotate_left; focus ((intro w' hSw; (try dsimp only at hSw); go_simp) <;> with_reducible rfl)); (try simp only [Act.put, List.setIfInBounds_toArray, List.set_cons_zero, List.set_cons_succ])
            refine wpAnyH_done (by kernel_rfl) ?_ _
            have ya0 : v5.cell? ⟨ja, 0, none⟩ = some (.int .i64 (wA w ⟨up, at'⟩)) := by rw [cell_of_row _ _ _ _ _ _ ra]; rfl
            have ya1 : v5.cell? ⟨ja, 1, none⟩ = some (.int .i64 (hA h ⟨up, at'⟩)) := by rw [cell_of_row _ _ _ _ _ _ ra]; rfl
            have ya2 : v5.cell? ⟨ja, 2, none⟩ = some (.slice A1 n1 c1) := by rw [cell_of_row _ _ _ _ _ _ ra]; rfl
            have yd0 : v5.cell? ⟨jd, 0, none⟩ = some (.int .i64 (wB w ⟨up, at'⟩)) := by rw [cell_of_row _ _ _ _ _ _ rd]; rfl
            have yd1 : v5.cell? ⟨jd, 1, none⟩ = some (.int .i64 (hB h ⟨up, at'⟩)) := by rw [cell_of_row _ _ _ _ _ _ rd]; rfl
            have yd2 : v5.cell? ⟨jd, 2, none⟩ = some (.slice A2 n2 c2) := by rw [cell_of_row _ _ _ _ _ _ rd]; rfl
            have hn1 : n1 ≤ 1048576 := by have h1 := HLA.out; have h2 := pA_len ⟨up, at'⟩ ps; have h3 := HLEN.out; omega
            have hn2 : n2 ≤ 1048576 := by have h1 := HLB.out; have h2 := pB_len ⟨up, at'⟩ ps; have h3 := HLEN.out; omega
            have hPA := hPA.rd
            have hPB := hPB.rd
            have BS := BB.size
            clear ra rd ta td hfara hfard hHeld n1_ n2_ n3_ n4_ n5_ n6_ n7_ na_ nd_
            go_wp2_with fail
            go_meet
            exact ⟨ja, jd, A1, n1, c1, A2, n2, c2, rfl, rfl, rfl, ya0, ya1, ya2, yd0, yd1, yd2, hPA, hPB, BB⟩
        · go_simp
          obtain ⟨jd, hjd⟩ : ∃ j, Hid (v1.heap.size = j) := ⟨_, rfl⟩
          obtain ⟨v2, hv2⟩ : ∃ v, Hid (v1.alloc (.cells #[.int .i64 0, .int .i64 0, .slice none 0 0] 30) = v) := ⟨_, rfl⟩
          have rd : v2.heap[jd]? = some (.cells #[.int .i64 0, .int .i64 0, .slice none 0 0] 30 (0, 0)) := by rw [← hv2.out, ← hjd.out]; exact heap_alloc_new v1 _
          have bb2 : Below v1.heap.size v1 v2 := by rw [← hv2.out]; exact (Below.refl _ _).alloc (Nat.le_refl _) _
          have zd : v1.heap.size = jd ∧ v2.heap.size = jd + 1 := by rw [← hv2.out, ← hjd.out]; simp
          have Zd := Lib.hid zd
          rw [hv2.out, hjd.out]
          refine hK.out _ _ (keep5 hHeld bb2) (fun hHeld => ?_)
          clear hK K; (try simp only [Act.put, List.setIfInBounds_toArray, List.set_cons_zero, List.set_cons_succ])
          have R2 := R1.below bb2
          have B2 := B1.trans (bb2.mono S1)
          have S2 := B2.size
          have hPA := hPA.below bb2
          have hPB := hPB.below bb2
          have Q2 : Hid (v1.heap.size ≤ v2.heap.size) := bb2.size
          clear bb2 zd
          refine wpAnyH_ready (rs := [9]) (by kernel_rfl) (by simp) ?_
          refine AllReadyH.cons (o := _) rfl (fun K hK => ?_) AllReadyH.nil
          · go_simp
            obtain ⟨ja, hja⟩ : ∃ j, Hid (v2.heap.size = j) := ⟨_, rfl⟩
            obtain ⟨v3, hv3⟩ : ∃ v, Hid (v2.alloc (.cells #[.int .i64 0, .int .i64 0, .slice none 0 0] 30) = v) := ⟨_, rfl⟩
            have ra : v3.heap[ja]? = some (.cells #[.int .i64 0, .int .i64 0, .slice none 0 0] 30 (0, 0)) := by rw [← hv3.out, ← hja.out]; exact heap_alloc_new v2 _
            have bb3 : Below v2.heap.size v2 v3 := by rw [← hv3.out]; exact (Below.refl _ _).alloc (Nat.le_refl _) _
            have za : v2.heap.size = ja ∧ v3.heap.size = ja + 1 := by rw [← hv3.out, ← hja.out]; simp
            have Za := Lib.hid za
            rw [hv3.out, hja.out]
            refine hK.out _ _ (keep5 hHeld bb3) (fun hHeld => ?_)
            clear hK K; (try simp only [Act.put, List.setIfInBounds_toArray, List.set_cons_zero, List.set_cons_succ])
            have R3 := R2.below bb3
            have B3 := B2.trans (bb3.mono S2)
            have S3 := B3.size
            have rd := (bb3.block jd (by have := Zd.out; have := Q1.out; have := Q2.out; omega)).trans rd
            have hPA := hPA.below bb3
            have hPB := hPB.below bb3
            have Q3 : Hid (v2.heap.size ≤ v3.heap.size) := bb3.size
            clear bb3 za
            have N : Hid (¬ jb = ja ∧ ¬ jb = jd ∧ ¬ b = ja ∧ ¬ b = jd ∧ ¬ ja = jd ∧ w2.heap.size ≤ ja ∧ w2.heap.size ≤ jd) := by have h1 := Za.out; have h2 := Zd.out; have h3 := Q1.out; have h4 := Q2.out; have h5 := Q3.out; refine ⟨?_, ?_, ?_, ?_, ?_, ?_, ?_⟩ <;> omega
            have NA : Hid ((ja < v0.heap.size ∨ v1.heap.size ≤ ja) ∧ (jd < v0.heap.size ∨ v1.heap.size ≤ jd)) := by have h1 := Za.out; have h2 := Zd.out; have h3 := Q1.out; have h4 := Q2.out; have h5 := Q3.out; refine ⟨?_, ?_⟩ <;> omega
            obtain ⟨n1_, n2_, n3_, n4_, n5_, n6_, n7_⟩ := N.out
            obtain ⟨na_, nd_⟩ := NA.out
            have hn1_ := hPA.len
            have hn2_ := hPB.len
            have HLA := Lib.hid hn1_
            have HLB := Lib.hid hn2_
            clear hn1_ hn2_
            have sa0 : v3.cell? ⟨ja, 0, none⟩ = some (.int .i64 0) := by rw [cell_of_row _ _ _ _ _ _ ra]; rfl
            have ga0 : v3.frozen? ⟨ja, 0, none⟩ = false := frozen_of_row _ _ _ _ _ ra
            have sa1 : v3.cell? ⟨ja, 1, none⟩ = some (.int .i64 0) := by rw [cell_of_row _ _ _ _ _ _ ra]; rfl
            have ga1 : v3.frozen? ⟨ja, 1, none⟩ = false := frozen_of_row _ _ _ _ _ ra
            have sa2 : v3.cell? ⟨ja, 2, none⟩ = some (.slice none 0 0) := by rw [cell_of_row _ _ _ _ _ _ ra]; rfl
            have ga2 : v3.frozen? ⟨ja, 2, none⟩ = false := frozen_of_row _ _ _ _ _ ra
            obtain ⟨v4, hv4⟩ : ∃ v, Hid ((((v3.setCell ⟨ja, 0, none⟩ (.int .i64 (wA w ⟨up, at'⟩))).setCell ⟨ja, 1, none⟩ (.int .i64 (hA h ⟨up, at'⟩))).setCell ⟨ja, 2, none⟩ (.slice A1 n1 c1)) = v) := ⟨_, rfl⟩
            refine wpAnyH_ready (rs := [11]) (by kernel_rfl) (by simp) ?_; refine AllReadyH.cons (o := _) rfl (fun K hK => ?_) AllReadyH.nil; go_simp
            rw [hv4.out]
            have ta := row_set (o := 2) (.slice A1 n1 c1) (row_set (o := 1) (.int .i64 (hA h ⟨up, at'⟩)) (row_set (o := 0) (.int .i64 (wA w ⟨up, at'⟩)) ra))
            rw [hv4.out] at ta
            have hfara : ∀ g, g ≠ ja → v4.heap[g]? = v3.heap[g]? := fun g hg => by rw [← hv4.out, row_far _ hg, row_far _ hg, row_far _ hg]
            refine hK.out _ _ ⟨cell_blk hHeld.1 (hfara jb n1_), cell_blk hHeld.2.1 (hfara jb n1_), cell_blk hHeld.2.2.1 (hfara jb n1_), cell_blk hHeld.2.2.2.1 (hfara b n3_), cell_blk hHeld.2.2.2.2 (hfara b n3_)⟩ (fun hHeld => ?_)
            clear hK K; (try simp only [Act.put, List.setIfInBounds_toArray, List.set_cons_zero, List.set_cons_succ])
            clear sa0 sa1 sa2 ga0 ga1 ga2
            have hPA := own_set (own_set (own_set hPA na_ 0 (.int .i64 (wA w ⟨up, at'⟩))) na_ 1 (.int .i64 (hA h ⟨up, at'⟩))) na_ 2 (.slice A1 n1 c1)
            have hPB := own_set (own_set (own_set hPB na_ 0 (.int .i64 (wA w ⟨up, at'⟩))) na_ 1 (.int .i64 (hA h ⟨up, at'⟩))) na_ 2 (.slice A1 n1 c1)
            rw [hv4.out] at hPA hPB
            have BB := below_set (below_set (below_set B3 n6_ (o := 0) (.int .i64 (wA w ⟨up, at'⟩))) n6_ (o := 1) (.int .i64 (hA h ⟨up, at'⟩))) n6_ (o := 2) (.slice A1 n1 c1)
            rw [hv4.out] at BB
            have rd := (hfara jd (fun e => n5_ e.symm)).trans rd
            have sd0 : v4.cell? ⟨jd, 0, none⟩ = some (.int .i64 0) := by rw [cell_of_row _ _ _ _ _ _ rd]; rfl
            have gd0 : v4.frozen? ⟨jd, 0, none⟩ = false := frozen_of_row _ _ _ _ _ rd
            have sd1 : v4.cell? ⟨jd, 1, none⟩ = some (.int .i64 0) := by rw [cell_of_row _ _ _ _ _ _ rd]; rfl
            have gd1 : v4.frozen? ⟨jd, 1, none⟩ = false := frozen_of_row _ _ _ _ _ rd
            have sd2 : v4.cell? ⟨jd, 2, none⟩ = some (.slice none 0 0) := by rw [cell_of_row _ _ _ _ _ _ rd]; rfl
            have gd2 : v4.frozen? ⟨jd, 2, none⟩ = false := frozen_of_row _ _ _ _ _ rd
            obtain ⟨v5, hv5⟩ : ∃ v, Hid ((((v4.setCell ⟨jd, 0, none⟩ (.int .i64 (wB w ⟨up, at'⟩))).setCell ⟨jd, 1, none⟩ (.int .i64 (hB h ⟨up, at'⟩))).setCell ⟨jd, 2, none⟩ (.slice A2 n2 c2)) = v) := ⟨_, rfl⟩
            refine wpAnyH_ready (rs := [12]) (by kernel_rfl) (by simp) ?_; refine AllReadyH.cons (o := _) rfl (fun K hK => ?_) AllReadyH.nil; go_simp
            rw [hv5.out]
            have td := row_set (o := 2) (.slice A2 n2 c2) (row_set (o := 1) (.int .i64 (hB h ⟨up, at'⟩)) (row_set (o := 0) (.int .i64 (wB w ⟨up, at'⟩)) rd))
            rw [hv5.out] at td
            have hfard : ∀ g, g ≠ jd → v5.heap[g]? = v4.heap[g]? := fun g hg => by rw [← hv5.out, row_far _ hg, row_far _ hg, row_far _ hg]
            refine hK.out _ _ ⟨cell_blk hHeld.1 (hfard jb n2_), cell_blk hHeld.2.1 (hfard jb n2_), cell_blk hHeld.2.2.1 (hfard jb n2_), cell_blk hHeld.2.2.2.1 (hfard b n4_), cell_blk hHeld.2.2.2.2 (hfard b n4_)⟩ (fun hHeld => ?_)
            clear hK K; (try simp only [Act.put, List.setIfInBounds_toArray, List.set_cons_zero, List.set_cons_succ])
            clear sd0 sd1 sd2 gd0 gd1 gd2
            have hPA := own_set (own_set (own_set hPA nd_ 0 (.int .i64 (wB w ⟨up, at'⟩))) nd_ 1 (.int .i64 (hB h ⟨up, at'⟩))) nd_ 2 (.slice A2 n2 c2)
            have hPB := own_set (own_set (own_set hPB nd_ 0 (.int .i64 (wB w ⟨up, at'⟩))) nd_ 1 (.int .i64 (hB h ⟨up, at'⟩))) nd_ 2 (.slice A2 n2 c2)
            rw [hv5.out] at hPA hPB
            have BB := below_set (below_set (below_set BB n7_ (o := 0) (.int .i64 (wB w ⟨up, at'⟩))) n7_ (o := 1) (.int .i64 (hB h ⟨up, at'⟩))) n7_ (o := 2) (.slice A2 n2 c2)
            rw [hv5.out] at BB
            have ra := (hfard ja n5_).trans ta
            have rd := td
            (refine take_yes (i := 13) (d := some 12) (v := ?_) rfl rfl (by kernel_rfl) (by kernel_rfl) (by kernel_rfl) (by rfl) (fun _ _ _ h => h) ?_ (by assumption) ?_; rotate_left; focus ((intro w' hSw; (try dsimp only at hSw); go_simp) <;> with_reducible rfl)); (try simp only [Act.put, List.setIfInBounds_toArray, List.set_cons_zero, List.set_cons_succ])
            refine wpAnyH_done (by kernel_rfl) ?_ _
            have ya0 : v5.cell? ⟨ja, 0, none⟩ = some (.int .i64 (wA w ⟨up, at'⟩)) := by rw [cell_of_row _ _ _ _ _ _ ra]; rfl
            have ya1 : v5.cell? ⟨ja, 1, none⟩ = some (.int .i64 (hA h ⟨up, at'⟩)) := by rw [cell_of_row _ _ _ _ _ _ ra]; rfl
            have ya2 : v5.cell? ⟨ja, 2, none⟩ = some (.slice A1 n1 c1) := by rw [cell_of_row _ _ _ _ _ _ ra]; rfl
            have yd0 : v5.cell? ⟨jd, 0, none⟩ = some (.int .i64 (wB w ⟨up, at'⟩)) := by rw [cell_of_row _ _ _ _ _ _ rd]; rfl
            have yd1 : v5.cell? ⟨jd, 1, none⟩ = some (.int .i64 (hB h ⟨up, at'⟩)) := by rw [cell_of_row _ _ _ _ _ _ rd]; rfl
            have yd2 : v5.cell? ⟨jd, 2, none⟩ = some (.slice A2 n2 c2) := by rw [cell_of_row _ _ _ _ _ _ rd]; rfl
            have hn1 : n1 ≤ 1048576 := by have h1 := HLA.out; have h2 := pA_len ⟨up, at'⟩ ps; have h3 := HLEN.out; omega
            have hn2 : n2 ≤ 1048576 := by have h1 := HLB.out; have h2 := pB_len ⟨up, at'⟩ ps; have h3 := HLEN.out; omega
            have hPA := hPA.rd
            have hPB := hPB.rd
            have BS := BB.size
            clear ra rd ta td hfara hfard hHeld n1_ n2_ n3_ n4_ n5_ n6_ n7_ na_ nd_
            go_wp2_with fail
            go_meet
            exact ⟨ja, jd, A1, n1, c1, A2, n2, c2, rfl, rfl, rfl, ya0, ya1, ya2, yd0, yd1, yd2, hPA, hPB, BB⟩
      · go_simp
        obtain ⟨ja, hja⟩ : ∃ j, Hid (v0.heap.size = j) := ⟨_, rfl⟩
        obtain ⟨v1, hv1⟩ : ∃ v, Hid (v0.alloc (.cells #[.int .i64 0, .int .i64 0, .slice none 0 0] 30) = v) := ⟨_, rfl⟩
        have ra : v1.heap[ja]? = some (.cells #[.int .i64 0, .int .i64 0, .slice none 0 0] 30 (0, 0)) := by rw [← hv1.out, ← hja.out]; exact heap_alloc_new v0 _
        have bb1 : Below v0.heap.size v0 v1 := by rw [← hv1.out]; exact (Below.refl _ _).alloc (Nat.le_refl _) _
        have za : v0.heap.size = ja ∧ v1.heap.size = ja + 1 := by rw [← hv1.out, ← hja.out]; simp
        have Za := Lib.hid za
        rw [hv1.out, hja.out]
        refine hK.out _ _ (keep5 hHeld bb1) (fun hHeld => ?_)
        clear hK K; (try simp only [Act.put, List.setIfInBounds_toArray, List.set_cons_zero, List.set_cons_succ])
        have R1 := hR0.below bb1
        have B1 := hB0.trans (bb1.mono hs0)
        have S1 := B1.size
        have Q1 : Hid (v0.heap.size ≤ v1.heap.size) := bb1.size
        clear bb1 za
        refine wpAnyH_ready (rs := [4, 10]) (by kernel_rfl) (by simp) ?_
        refine AllReadyH.cons (o := _) rfl (fun K hK => ?_) (AllReadyH.cons (o := _) rfl (fun K hK => ?_) AllReadyH.nil)
        · go_simp
          refine (splitS_any w h A n c ps up at' _ R1 hN HK.out).mono ?_
          rintro e v2 ⟨A1, n1, c1, A2, n2, c2, rfl, hPA, hPB, bb2⟩
          have hlo2 := bb2.size
          refine hK.out _ _ (keep5 hHeld bb2) (fun hHeld => ?_)
          clear hK K; (try simp only [Act.put, List.setIfInBounds_toArray, List.set_cons_zero, List.set_cons_succ])
          have R2 := R1.below bb2
          have B2 := B1.trans (bb2.mono S1)
          have S2 := B2.size
          have ra := (bb2.block ja (by have := Za.out; have := Q1.out; omega)).trans ra
          have Q2 : Hid (v1.heap.size ≤ v2.heap.size) := bb2.size
          clear bb2 hlo2
          (refine take_yes (i := 5) (d := some 38) (v := ?_) rfl rfl (by kernel_rfl) (by kernel_rfl) (by kernel_rfl) (by rfl) (fun _ _ _ h => h) ?_ (by assumption) ?_; rotate_left; focus ((intro w' hSw; (try dsimp only at hSw); go_simp) <;> with_reducible rfl)); (try simp only [Act.put, List.setIfInBounds_toArray, List.set_cons_zero, List.set_cons_succ])
          (refine take_yes (i := 6) (d := some 44) (v := ?_) rfl rfl (by kernel_rfl) (by kernel_rfl) (by kernel_rfl) (by rfl) (fun _ _ _ h => h) ?_ (by assumption) ?_; rotate_left; focus ((intro w' hSw; (try dsimp only at hSw); go_simp) <;> with_reducible rfl)); (try simp only [Act.put, List.setIfInBounds_toArray, List.set_cons_zero, List.set_cons_succ])
          (refine take_yes (i := 7) (d := some 45) (v := ?_) rfl rfl (by kernel_rfl) (by kernel_rfl) (by kernel_rfl) (by rfl) (fun _ _ _ h => h) ?_ (by assumption) ?_; rotate_left; focus ((intro w' hSw; (try dsimp only at hSw); go_simp) <;> with_reducible rfl)); (try simp only [Act.put, List.setIfInBounds_toArray, List.set_cons_zero, List.set_cons_succ])
          (refine take_yes (i := 8) (d := some 46) (v := ?_) rfl rfl (by kernel_rfl) (by kernel_rfl) (by kernel_rfl) (by rfl) (fun _ _ _ h => h) ?_ (by assumption) ?_; rotate_left; focus ((intro w' hSw; (try dsimp only at hSw); go_simp) <;> with_reducible rfl)); (try simp only [Act.put, List.setIfInBounds_toArray, List.set_cons_zero, List.set_cons_succ])
          refine wpAnyH_ready (rs := [10]) (by kernel_rfl) (by simp) ?_
          refine AllReadyH.cons (o := _) rfl (fun K hK => ?_) AllReadyH.nil
          · go_simp
            obtain ⟨jd, hjd⟩ : ∃ j, Hid (v2.heap.size = j) := ⟨_, rfl⟩
            obtain ⟨v3, hv3⟩ : ∃ v, Hid (v2.alloc (.cells #[.int .i64 0, .int .i64 0, .slice none 0 0] 30) = v) := ⟨_, rfl⟩
            have rd : v3.heap[jd]? = some (.cells #[.int .i64 0, .int .i64 0, .slice none 0 0] 30 (0, 0)) := by rw [← hv3.out, ← hjd.out]; exact heap_alloc_new v2 _
            have bb3 : Below v2.heap.size v2 v3 := by rw [← hv3.out]; exact (Below.refl _ _).alloc (Nat.le_refl _) _
            have zd : v2.heap.size = jd ∧ v3.heap.size = jd + 1 := by rw [← hv3.out, ← hjd.out]; simp
            have Zd := Lib.hid zd
            rw [hv3.out, hjd.out]
            refine hK.out _ _ (keep5 hHeld bb3) (fun hHeld => ?_)
            clear hK K; (try simp only [Act.put, List.setIfInBounds_toArray, List.set_cons_zero, List.set_cons_succ])
            have R3 := R2.below bb3
            have B3 := B2.trans (bb3.mono S2)
            have S3 := B3.size
            have ra := (bb3.block ja (by have := Za.out; have := Q1.out; have := Q2.out; omega)).trans ra
            have hPA := hPA.below bb3
            have hPB := hPB.below bb3
            have Q3 : Hid (v2.heap.size ≤ v3.heap.size) := bb3.size
            clear bb3 zd
            have N : Hid (¬ jb = ja ∧ ¬ jb = jd ∧ ¬ b = ja ∧ ¬ b = jd ∧ ¬ ja = jd ∧ w2.heap.size ≤ ja ∧ w2.heap.size ≤ jd) := by have h1 := Za.out; have h2 := Zd.out; have h3 := Q1.out; have h4 := Q2.out; have h5 := Q3.out; refine ⟨?_, ?_, ?_, ?_, ?_, ?_, ?_⟩ <;> omega
            have NA : Hid ((ja < v1.heap.size ∨ v2.heap.size ≤ ja) ∧ (jd < v1.heap.size ∨ v2.heap.size ≤ jd)) := by have h1 := Za.out; have h2 := Zd.out; have h3 := Q1.out; have h4 := Q2.out; have h5 := Q3.out; refine ⟨?_, ?_⟩ <;> omega
            obtain ⟨n1_, n2_, n3_, n4_, n5_, n6_, n7_⟩ := N.out
            obtain ⟨na_, nd_⟩ := NA.out
            have hn1_ := hPA.len
            have hn2_ := hPB.len
            have HLA := Lib.hid hn1_
            have HLB := Lib.hid hn2_
            clear hn1_ hn2_
            have sa0 : v3.cell? ⟨ja, 0, none⟩ = some (.int .i64 0) := by rw [cell_of_row _ _ _ _ _ _ ra]; rfl
            have ga0 : v3.frozen? ⟨ja, 0, none⟩ = false := frozen_of_row _ _ _ _ _ ra
            have sa1 : v3.cell? ⟨ja, 1, none⟩ = some (.int .i64 0) := by rw [cell_of_row _ _ _ _ _ _ ra]; rfl
            have ga1 : v3.frozen? ⟨ja, 1, none⟩ = false := frozen_of_row _ _ _ _ _ ra
            have sa2 : v3.cell? ⟨ja, 2, none⟩ = some (.slice none 0 0) := by rw [cell_of_row _ _ _ _ _ _ ra]; rfl
            have ga2 : v3.frozen? ⟨ja, 2, none⟩ = false := frozen_of_row _ _ _ _ _ ra
            obtain ⟨v4, hv4⟩ : ∃ v, Hid ((((v3.setCell ⟨ja, 0, none⟩ (.int .i64 (wA w ⟨up, at'⟩))).setCell ⟨ja, 1, none⟩ (.int .i64 (hA h ⟨up, at'⟩))).setCell ⟨ja, 2, none⟩ (.slice A1 n1 c1)) = v) := ⟨_, rfl⟩
            refine wpAnyH_ready (rs := [11]) (by kernel_rfl) (by simp) ?_; refine AllReadyH.cons (o := _) rfl (fun K hK => ?_) AllReadyH.nil; go_simp
            rw [hv4.out]
            have ta := row_set (o := 2) (.slice A1 n1 c1) (row_set (o := 1) (.int .i64 (hA h ⟨up, at'⟩)) (row_set (o := 0) (.int .i64 (wA w ⟨up, at'⟩)) ra))
            rw [hv4.out] at ta
            have hfara : ∀ g, g ≠ ja → v4.heap[g]? = v3.heap[g]? := fun g hg => by rw [← hv4.out, row_far _ hg, row_far _ hg, row_far _ hg]
            refine hK.out _ _ ⟨cell_blk hHeld.1 (hfara jb n1_), cell_blk hHeld.2.1 (hfara jb n1_), cell_blk hHeld.2.2.1 (hfara jb n1_), cell_blk hHeld.2.2.2.1 (hfara b n3_), cell_blk hHeld.2.2.2.2 (hfara b n3_)⟩ (fun hHeld => ?_)
            clear hK K; (try simp only [Act.put, List.setIfInBounds_toArray, List.set_cons_zero, List.set_cons_succ])
            clear sa0 sa1 sa2 ga0 ga1 ga2
            have hPA := own_set (own_set (own_set hPA na_ 0 (.int .i64 (wA w ⟨up, at'⟩))) na_ 1 (.int .i64 (hA h ⟨up, at'⟩))) na_ 2 (.slice A1 n1 c1)
            have hPB := own_set (own_set (own_set hPB na_ 0 (.int .i64 (wA w ⟨up, at'⟩))) na_ 1 (.int .i64 (hA h ⟨up, at'⟩))) na_ 2 (.slice A1 n1 c1)
            rw [hv4.out] at hPA hPB
            have BB := below_set (below_set (below_set B3 n6_ (o := 0) (.int .i64 (wA w ⟨up, at'⟩))) n6_ (o := 1) (.int .i64 (hA h ⟨up, at'⟩))) n6_ (o := 2) (.slice A1 n1 c1)
            rw [hv4.out] at BB
            have rd := (hfara jd (fun e => n5_ e.symm)).trans rd
            have sd0 : v4.cell? ⟨jd, 0, none⟩ = some (.int .i64 0) := by rw [cell_of_row _ _ _ _ _ _ rd]; rfl
            have gd0 : v4.frozen? ⟨jd, 0, none⟩ = false := frozen_of_row _ _ _ _ _ rd
            have sd1 : v4.cell? ⟨jd, 1, none⟩ = some (.int .i64 0) := by rw [cell_of_row _ _ _ _ _ _ rd]; rfl
            have gd1 : v4.frozen? ⟨jd, 1, none⟩ = false := frozen_of_row _ _ _ _ _ rd
            have sd2 : v4.cell? ⟨jd, 2, none⟩ = some (.slice none 0 0) := by rw [cell_of_row _ _ _ _ _ _ rd]; rfl
            have gd2 : v4.frozen? ⟨jd, 2, none⟩ = false := frozen_of_row _ _ _ _ _ rd
            obtain ⟨v5, hv5⟩ : ∃ v, Hid ((((v4.setCell ⟨jd, 0, none⟩ (.int .i64 (wB w ⟨up, at'⟩))).setCell ⟨jd, 1, none⟩ (.int .i64 (hB h ⟨up, at'⟩))).setCell ⟨jd, 2, none⟩ (.slice A2 n2 c2)) = v) := ⟨_, rfl⟩
            refine wpAnyH_ready (rs := [12]) (by kernel_rfl) (by simp) ?_; refine AllReadyH.cons (o := _) rfl (fun K hK => ?_) AllReadyH.nil; go_simp
            rw [hv5.out]
            have td := row_set (o := 2) (.slice A2 n2 c2) (row_set (o := 1) (.int .i64 (hB h ⟨up, at'⟩)) (row_set (o := 0) (.int .i64 (wB w ⟨up, at'⟩)) rd))
            rw [hv5.out] at td
            have hfard : ∀ g, g ≠ jd → v5.heap[g]? = v4.heap[g]? := fun g hg => by rw [← hv5.out, row_far _ hg, row_far _ hg, row_far _ hg]
            refine hK.out _ _ ⟨cell_blk hHeld.1 (hfard jb n2_), cell_blk hHeld.2.1 (hfard jb n2_), cell_blk hHeld.2.2.1 (hfard jb n2_), cell_blk hHeld.2.2.2.1 (hfard b n4_), cell_blk hHeld.2.2.2.2 (hfard b n4_)⟩ (fun hHeld => ?_)
            clear hK K; (try simp only [Act.put, List.setIfInBounds_toArray, List.set_cons_zero, List.set_cons_succ])
            clear sd0 sd1 sd2 gd0 gd1 gd2
            have hPA := own_set (own_set (own_set hPA nd_ 0 (.int .i64 (wB w ⟨up, at'⟩))) nd_ 1 (.int .i64 (hB h ⟨up, at'⟩))) nd_ 2 (.slice A2 n2 c2)
            have hPB := own_set (own_set (own_set hPB nd_ 0 (.int .i64 (wB w ⟨up, at'⟩))) nd_ 1 (.int .i64 (hB h ⟨up, at'⟩))) nd_ 2 (.slice A2 n2 c2)
            rw [hv5.out] at hPA hPB
            have BB := below_set (below_set (below_set BB n7_ (o := 0) (.int .i64 (wB w ⟨up, at'⟩))) n7_ (o := 1) (.int .i64 (hB h ⟨up, at'⟩))) n7_ (o := 2) (.slice A2 n2 c2)
            rw [hv5.out] at BB
            have ra := (hfard ja n5_).trans ta
            have rd := td
            (refine take_yes (i := 13) (d := some 12) (v := ?_) rfl rfl (by kernel_rfl) (by kernel_rfl) (by kernel_rfl) (by rfl) (fun _ _ _ h => h) ?_ (by assumption) ?_; rotate_left; focus ((intro w' hSw; (try dsimp only at hSw); go_simp) <;> with_reducible rfl)); (try simp only [Act.put, List.setIfInBounds_toArray, List.set_cons_zero, List.set_cons_succ])
            refine wpAnyH_done (by kernel_rfl) ?_ _
            have ya0 : v5.cell? ⟨ja, 0, none⟩ = some (.int .i64 (wA w ⟨up, at'⟩)) := by rw [cell_of_row _ _ _ _ _ _ ra]; rfl
            have ya1 : v5.cell? ⟨ja, 1, none⟩ = some (.int .i64 (hA h ⟨up, at'⟩)) := by rw [cell_of_row _ _ _ _ _ _ ra]; rfl
            have ya2 : v5.cell? ⟨ja, 2, none⟩ = some (.slice A1 n1 c1) := by rw [cell_of_row _ _ _ _ _ _ ra]; rfl
            have yd0 : v5.cell? ⟨jd, 0, none⟩ = some (.int .i64 (wB w ⟨up, at'⟩)) := by rw [cell_of_row _ _ _ _ _ _ rd]; rfl
            have yd1 : v5.cell? ⟨jd, 1, none⟩ = some (.int .i64 (hB h ⟨up, at'⟩)) := by rw [cell_of_row _ _ _ _ _ _ rd]; rfl
            have yd2 : v5.cell? ⟨jd, 2, none⟩ = some (.slice A2 n2 c2) := by rw [cell_of_row _ _ _ _ _ _ rd]; rfl
            have hn1 : n1 ≤ 1048576 := by have h1 := HLA.out; have h2 := pA_len ⟨up, at'⟩ ps; have h3 := HLEN.out; omega
            have hn2 : n2 ≤ 1048576 := by have h1 := HLB.out; have h2 := pB_len ⟨up, at'⟩ ps; have h3 := HLEN.out; omega
            have hPA := hPA.rd
            have hPB := hPB.rd
            have BS := BB.size
            clear ra rd ta td hfara hfard hHeld n1_ n2_ n3_ n4_ n5_ n6_ n7_ na_ nd_
            go_wp2_with fail
            go_meet
            exact ⟨ja, jd, A1, n1, c1, A2, n2, c2, rfl, rfl, rfl, ya0, ya1, ya2, yd0, yd1, yd2, hPA, hPB, BB⟩
        · go_simp
          obtain ⟨jd, hjd⟩ : ∃ j, Hid (v1.heap.size = j) := ⟨_, rfl⟩
          obtain ⟨v2, hv2⟩ : ∃ v, Hid (v1.alloc (.cells #[.int .i64 0, .int .i64 0, .slice none 0 0] 30) = v) := ⟨_, rfl⟩
          have rd : v2.heap[jd]? = some (.cells #[.int .i64 0, .int .i64 0, .slice none 0 0] 30 (0, 0)) := by rw [← hv2.out, ← hjd.out]; exact heap_alloc_new v1 _
          have bb2 : Below v1.heap.size v1 v2 := by rw [← hv2.out]; exact (Below.refl _ _).alloc (Nat.le_refl _) _
          have zd : v1.heap.size = jd ∧ v2.heap.size = jd + 1 := by rw [← hv2.out, ← hjd.out]; simp
          have Zd := Lib.hid zd
          rw [hv2.out, hjd.out]
          refine hK.out _ _ (keep5 hHeld bb2) (fun hHeld => ?_)
          clear hK K; (try simp only [Act.put, List.setIfInBounds_toArray, List.set_cons_zero, List.set_cons_succ])
          have R2 := R1.below bb2
          have B2 := B1.trans (bb2.mono S1)
          have S2 := B2.size
          have ra := (bb2.block ja (by have := Za.out; have := Q1.out; omega)).trans ra
          have Q2 : Hid (v1.heap.size ≤ v2.heap.size) := bb2.size
          clear bb2 zd
          refine wpAnyH_ready (rs := [4]) (by kernel_rfl) (by simp) ?_
          refine AllReadyH.cons (o := _) rfl (fun K hK => ?_) AllReadyH.nil
          · go_simp
            refine (splitS_any w h A n c ps up at' _ R2 hN HK.out).mono ?_
            rintro e v3 ⟨A1, n1, c1, A2, n2, c2, rfl, hPA, hPB, bb3⟩
            have hlo3 := bb3.size
            refine hK.out _ _ (keep5 hHeld bb3) (fun hHeld => ?_)
            clear hK K; (try simp only [Act.put, List.setIfInBounds_toArray, List.set_cons_zero, List.set_cons_succ])
            have R3 := R2.below bb3
            have B3 := B2.trans (bb3.mono S2)
            have S3 := B3.size
            have ra := (bb3.block ja (by have := Za.out; have := Q1.out; have := Q2.out; omega)).trans ra
            have rd := (bb3.block jd (by have := Zd.out; have := Q1.out; have := Q2.out; omega)).trans rd
            have Q3 : Hid (v2.heap.size ≤ v3.heap.size) := bb3.size
            clear bb3 hlo3
            (refine take_yes (i := 5) (d := some 38) (v := ?_) rfl rfl (by kernel_rfl) (by kernel_rfl) (by kernel_rfl) (by rfl) (fun _ _ _ h => h) ?_ (by assumption) ?_; rotate_left; focus ((intro w' hSw; (try dsimp only at hSw); go_simp) <;> with_reducible rfl)); (try simp only [Act.put, List.setIfInBounds_toArray, List.set_cons_zero, List.set_cons_succ])
            (refine take_yes (i := 6) (d := some 44) (v := ?_) rfl rfl (by kernel_rfl) (by kernel_rfl) (by kernel_rfl) (by rfl) (fun _ _ _ h => h) ?_ (by assumption) ?_; rotate_left; focus ((intro w' hSw; (try dsimp only at hSw); go_simp) <;> with_reducible rfl)); (try simp only [Act.put, List.setIfInBounds_toArray, List.set_cons_zero, List.set_cons_succ])
            (refine take_yes (i := 7) (d := some 45) (v := ?_) rfl rfl (by kernel_rfl) (by kernel_rfl) (by kernel_rfl) (by rfl) (fun _ _ _ h => h) ?_ (by assumption) ?_; rotate_left; focus ((intro w' hSw; (try dsimp only at hSw); go_simp) <;> with_reducible rfl)); (try simp only [Act.put, List.setIfInBounds_toArray, List.set_cons_zero, List.set_cons_succ])
            (refine take_yes (i := 8) (d := some 46) (v := ?_) rfl rfl (by kernel_rfl) (by kernel_rfl) (by kernel_rfl) (by rfl) (fun _ _ _ h => h) ?_ (by assumption) ?_; rotate_left; focus ((intro w' hSw; (try dsimp only at hSw); go_simp) <;> with_reducible rfl)); (try simp only [Act.put, List.setIfInBounds_toArray, List.set_cons_zero, List.set_cons_succ])
            have N : Hid (¬ jb = ja ∧ ¬ jb = jd ∧ ¬ b = ja ∧ ¬ b = jd ∧ ¬ ja = jd ∧ w2.heap.size ≤ ja ∧ w2.heap.size ≤ jd) := by have h1 := Za.out; have h2 := Zd.out; have h3 := Q1.out; have h4 := Q2.out; have h5 := Q3.out; refine ⟨?_, ?_, ?_, ?_, ?_, ?_, ?_⟩ <;> omega
            have NA : Hid ((ja < v2.heap.size ∨ v3.heap.size ≤ ja) ∧ (jd < v2.heap.size ∨ v3.heap.size ≤ jd)) := by have h1 := Za.out; have h2 := Zd.out; have h3 := Q1.out; have h4 := Q2.out; have h5 := Q3.out; refine ⟨?_, ?_⟩ <;> omega
            obtain ⟨n1_, n2_, n3_, n4_, n5_, n6_, n7_⟩ := N.out
            obtain ⟨na_, nd_⟩ := NA.out
            have hn1_ := hPA.len
            have hn2_ := hPB.len
            have HLA := Lib.hid hn1_
            have HLB := Lib.hid hn2_
            clear hn1_ hn2_
            have sa0 : v3.cell? ⟨ja, 0, none⟩ = some (.int .i64 0) := by rw [cell_of_row _ _ _ _ _ _ ra]; rfl
            have ga0 : v3.frozen? ⟨ja, 0, none⟩ = false := frozen_of_row _ _ _ _ _ ra
            have sa1 : v3.cell? ⟨ja, 1, none⟩ = some (.int .i64 0) := by rw [cell_of_row _ _ _ _ _ _ ra]; rfl
            have ga1 : v3.frozen? ⟨ja, 1, none⟩ = false := frozen_of_row _ _ _ _ _ ra
            have sa2 : v3.cell? ⟨ja, 2, none⟩ = some (.slice none 0 0) := by rw [cell_of_row _ _ _ _ _ _ ra]; rfl
            have ga2 : v3.frozen? ⟨ja, 2, none⟩ = false := frozen_of_row _ _ _ _ _ ra
            obtain ⟨v4, hv4⟩ : ∃ v, Hid ((((v3.setCell ⟨ja, 0, none⟩ (.int .i64 (wA w ⟨up, at'⟩))).setCell ⟨ja, 1, none⟩ (.int .i64 (hA h ⟨up, at'⟩))).setCell ⟨ja, 2, none⟩ (.slice A1 n1 c1)) = v) := ⟨_, rfl⟩
            refine wpAnyH_ready (rs := [11]) (by kernel_rfl) (by simp) ?_; refine AllReadyH.cons (o := _) rfl (fun K hK => ?_) AllReadyH.nil; go_simp
            rw [hv4.out]
            have ta := row_set (o := 2) (.slice A1 n1 c1) (row_set (o := 1) (.int .i64 (hA h ⟨up, at'⟩)) (row_set (o := 0) (.int .i64 (wA w ⟨up, at'⟩)) ra))
            rw [hv4.out] at ta
            have hfara : ∀ g, g ≠ ja → v4.heap[g]? = v3.heap[g]? := fun g hg => by rw [← hv4.out, row_far _ hg, row_far _ hg, row_far _ hg]
            refine hK.out _ _ ⟨cell_blk hHeld.1 (hfara jb n1_), cell_blk hHeld.2.1 (hfara jb n1_), cell_blk hHeld.2.2.1 (hfara jb n1_), cell_blk hHeld.2.2.2.1 (hfara b n3_), cell_blk hHeld.2.2.2.2 (hfara b n3_)⟩ (fun hHeld => ?_)
            clear hK K; (try simp only [Act.put, List.setIfInBounds_toArray, List.set_cons_zero, List.set_cons_succ])
            clear sa0 sa1 sa2 ga0 ga1 ga2
            have hPA := own_set (own_set (own_set hPA na_ 0 (.int .i64 (wA w ⟨up, at'⟩))) na_ 1 (.int .i64 (hA h ⟨up, at'⟩))) na_ 2 (.slice A1 n1 c1)
            have hPB := own_set (own_set (own_set hPB na_ 0 (.int .i64 (wA w ⟨up, at'⟩))) na_ 1 (.int .i64 (hA h ⟨up, at'⟩))) na_ 2 (.slice A1 n1 c1)
            rw [hv4.out] at hPA hPB
            have BB := below_set (below_set (below_set B3 n6_ (o := 0) (.int .i64 (wA w ⟨up, at'⟩))) n6_ (o := 1) (.int .i64 (hA h ⟨up, at'⟩))) n6_ (o := 2) (.slice A1 n1 c1)
            rw [hv4.out] at BB
            have rd := (hfara jd (fun e => n5_ e.symm)).trans rd
            have sd0 : v4.cell? ⟨jd, 0, none⟩ = some (.int .i64 0) := by rw [cell_of_row _ _ _ _ _ _ rd]; rfl
            have gd0 : v4.frozen? ⟨jd, 0, none⟩ = false := frozen_of_row _ _ _ _ _ rd
            have sd1 : v4.cell? ⟨jd, 1, none⟩ = some (.int .i64 0) := by rw [cell_of_row _ _ _ _ _ _ rd]; rfl
            have gd1 : v4.frozen? ⟨jd, 1, none⟩ = false := frozen_of_row _ _ _ _ _ rd
            have sd2 : v4.cell? ⟨jd, 2, none⟩ = some (.slice none 0 0) := by rw [cell_of_row _ _ _ _ _ _ rd]; rfl
            have gd2 : v4.frozen? ⟨jd, 2, none⟩ = false := frozen_of_row _ _ _ _ _ rd
            obtain ⟨v5, hv5⟩ : ∃ v, Hid ((((v4.setCell ⟨jd, 0, none⟩ (.int .i64 (wB w ⟨up, at'⟩))).setCell ⟨jd, 1, none⟩ (.int .i64 (hB h ⟨up, at'⟩))).setCell ⟨jd, 2, none⟩ (.slice A2 n2 c2)) = v) := ⟨_, rfl⟩
            refine wpAnyH_ready (rs := [12]) (by kernel_rfl) (by simp) ?_; refine AllReadyH.cons (o := _) rfl (fun K hK => ?_) AllReadyH.nil; go_simp
            rw [hv5.out]
            have td := row_set (o := 2) (.slice A2 n2 c2) (row_set (o := 1) (.int .i64 (hB h ⟨up, at'⟩)) (row_set (o := 0) (.int .i64 (wB w ⟨up, at'⟩)) rd))
            rw [hv5.out] at td
            have hfard : ∀ g, g ≠ jd → v5.heap[g]? = v4.heap[g]? := fun g hg => by rw [← hv5.out, row_far _ hg, row_far _ hg, row_far _ hg]
            refine hK.out _ _ ⟨cell_blk hHeld.1 (hfard jb n2_), cell_blk hHeld.2.1 (hfard jb n2_), cell_blk hHeld.2.2.1 (hfard jb n2_), cell_blk hHeld.2.2.2.1 (hfard b n4_), cell_blk hHeld.2.2.2.2 (hfard b n4_)⟩ (fun hHeld => ?_)
            clear hK K; (try simp only [Act.put, List.setIfInBounds_toArray, List.set_cons_zero, List.set_cons_succ])
            clear sd0 sd1 sd2 gd0 gd1 gd2
            have hPA := own_set (own_set (own_set hPA nd_ 0 (.int .i64 (wB w ⟨up, at'⟩))) nd_ 1 (.int .i64 (hB h ⟨up, at'⟩))) nd_ 2 (.slice A2 n2 c2)
            have hPB := own_set (own_set (own_set hPB nd_ 0 (.int .i64 (wB w ⟨up, at'⟩))) nd_ 1 (.int .i64 (hB h ⟨up, at'⟩))) nd_ 2 (.slice A2 n2 c2)
            rw [hv5.out] at hPA hPB
            have BB := below_set (below_set (below_set BB n7_ (o := 0) (.int .i64 (wB w ⟨up, at'⟩))) n7_ (o := 1) (.int .i64 (hB h ⟨up, at'⟩))) n7_ (o := 2) (.slice A2 n2 c2)
            rw [hv5.out] at BB
            have ra := (hfard ja n5_).trans ta
            have rd := td
            (refine take_yes (i := 13) (d := some 12) (v := ?_) rfl rfl (by kernel_rfl) (by kernel_rfl) (by kernel_rfl) (by rfl) (fun _ _ _ h => h) ?_ (by assumption) ?_; rotate_left; focus ((intro w' hSw; (try dsimp only at hSw); go_simp) <;> with_reducible rfl)); (try simp only [Act.put, List.setIfInBounds_toArray, List.set_cons_zero, List.set_cons_succ])
            refine wpAnyH_done (by kernel_rfl) ?_ _
            have ya0 : v5.cell? ⟨ja, 0, none⟩ = some (.int .i64 (wA w ⟨up, at'⟩)) := by rw [cell_of_row _ _ _ _ _ _ ra]; rfl
            have ya1 : v5.cell? ⟨ja, 1, none⟩ = some (.int .i64 (hA h ⟨up, at'⟩)) := by rw [cell_of_row _ _ _ _ _ _ ra]; rfl
            have ya2 : v5.cell? ⟨ja, 2, none⟩ = some (.slice A1 n1 c1) := by rw [cell_of_row _ _ _ _ _ _ ra]; rfl
            have yd0 : v5.cell? ⟨jd, 0, none⟩ = some (.int .i64 (wB w ⟨up, at'⟩)) := by rw [cell_of_row _ _ _ _ _ _ rd]; rfl
            have yd1 : v5.cell? ⟨jd, 1, none⟩ = some (.int .i64 (hB h ⟨up, at'⟩)) := by rw [cell_of_row _ _ _ _ _ _ rd]; rfl
            have yd2 : v5.cell? ⟨jd, 2, none⟩ = some (.slice A2 n2 c2) := by rw [cell_of_row _ _ _ _ _ _ rd]; rfl
            have hn1 : n1 ≤ 1048576 := by have h1 := HLA.out; have h2 := pA_len ⟨up, at'⟩ ps; have h3 := HLEN.out; omega
            have hn2 : n2 ≤ 1048576 := by have h1 := HLB.out; have h2 := pB_len ⟨up, at'⟩ ps; have h3 := HLEN.out; omega
            have hPA := hPA.rd
            have hPB := hPB.rd
            have BS := BB.size
            clear ra rd ta td hfara hfard hHeld n1_ n2_ n3_ n4_ n5_ n6_ n7_ na_ nd_
            go_wp2_with fail
            go_meet
            exact ⟨ja, jd, A1, n1, c1, A2, n2, c2, rfl, rfl, rfl, ya0, ya1, ya2, yd0, yd1, yd2, hPA, hPB, BB⟩
      · go_simp
        obtain ⟨jd, hjd⟩ : ∃ j, Hid (v0.heap.size = j) := ⟨_, rfl⟩
        obtain ⟨v1, hv1⟩ : ∃ v, Hid (v0.alloc (.cells #[.int .i64 0, .int .i64 0, .slice none 0 0] 30) = v) := ⟨_, rfl⟩
        have rd : v1.heap[jd]? = some (.cells #[.int .i64 0, .int .i64 0, .slice none 0 0] 30 (0, 0)) := by rw [← hv1.out, ← hjd.out]; exact heap_alloc_new v0 _
        have bb1 : Below v0.heap.size v0 v1 := by rw [← hv1.out]; exact (Below.refl _ _).alloc (Nat.le_refl _) _
        have zd : v0.heap.size = jd ∧ v1.heap.size = jd + 1 := by rw [← hv1.out, ← hjd.out]; simp
        have Zd := Lib.hid zd
        rw [hv1.out, hjd.out]
        refine hK.out _ _ (keep5 hHeld bb1) (fun hHeld => ?_)
        clear hK K; (try simp only [Act.put, List.setIfInBounds_toArray, List.set_cons_zero, List.set_cons_succ])
        have R1 := hR0.below bb1
        have B1 := hB0.trans (bb1.mono hs0)
        have S1 := B1.size
        have Q1 : Hid (v0.heap.size ≤ v1.heap.size) := bb1.size
        clear bb1 zd
        refine wpAnyH_ready (rs := [4, 9]) (by kernel_rfl) (by simp) ?_
        refine AllReadyH.cons (o := _) rfl (fun K hK => ?_) (AllReadyH.cons (o := _) rfl (fun K hK => ?_) AllReadyH.nil)
        · go_simp
          refine (splitS_any w h A n c ps up at' _ R1 hN HK.out).mono ?_
          rintro e v2 ⟨A1, n1, c1, A2, n2, c2, rfl, hPA, hPB, bb2⟩
          have hlo2 := bb2.size
          refine hK.out _ _ (keep5 hHeld bb2) (fun hHeld => ?_)
          clear hK K; (try simp only [Act.put, List.setIfInBounds_toArray, List.set_cons_zero, List.set_cons_succ])
          have R2 := R1.below bb2
          have B2 := B1.trans (bb2.mono S1)
          have S2 := B2.size
          have rd := (bb2.block jd (by have := Zd.out; have := Q1.out; omega)).trans rd
          have Q2 : Hid (v1.heap.size ≤ v2.heap.size) := bb2.size
          clear bb2 hlo2
          (refine take_yes (i := 5) (d := some 38) (v := ?_) rfl rfl (by kernel_rfl) (by kernel_rfl) (by kernel_rfl) (by rfl) (fun _ _ _ h => h) ?_ (by assumption) ?_; rotate_left; focus ((intro w' hSw; (try dsimp only at hSw); go_simp) <;> with_reducible rfl)); (try simp only [Act.put, List.setIfInBounds_toArray, List.set_cons_zero, List.set_cons_succ])
          (refine take_yes (i := 6) (d := some 44) (v := ?_) rfl rfl (by kernel_rfl) (by kernel_rfl) (by kernel_rfl) (by rfl) (fun _ _ _ h => h) ?_ (by assumption) ?_; rotate_left; focus ((intro w' hSw; (try dsimp only at hSw); go_simp) <;> with_reducible rfl)); (try simp only [Act.put, List.setIfInBounds_toArray, List.set_cons_zero, List.set_cons_succ])
          (refine take_yes (i := 7) (d := some 45) (v := ?_) rfl rfl (by kernel_rfl) (by kernel_rfl) (by kernel_rfl) (by rfl) (fun _ _ _ h => h) ?_ (by assumption) ?_; rotate_left; focus ((intro w' hSw; (try dsimp only at hSw); go_simp) <;> with_reducible rfl)); (try simp only [Act.put, List.setIfInBounds_toArray, List.set_cons_zero, List.set_cons_succ])
          (refine take_yes (i := 8) (d := some 46) (v := ?_) rfl rfl (by kernel_rfl) (by kernel_rfl) (by kernel_rfl) (by rfl) (fun _ _ _ h => h) ?_ (by assumption) ?_; rotate_left; focus ((intro w' hSw; (try dsimp only at hSw); go_simp) <;> with_reducible rfl)); (try simp only [Act.put, List.setIfInBounds_toArray, List.set_cons_zero, List.set_cons_succ])
          refine wpAnyH_ready (rs := [9]) (by kernel_rfl) (by simp) ?_
          refine AllReadyH.cons (o := _) rfl (fun K hK => ?_) AllReadyH.nil
          · go_simp
            obtain ⟨ja, hja⟩ : ∃ j, Hid (v2.heap.size = j) := ⟨_, rfl⟩
            obtain ⟨v3, hv3⟩ : ∃ v, Hid (v2.alloc (.cells #[.int .i64 0, .int .i64 0, .slice none 0 0] 30) = v) := ⟨_, rfl⟩
            have ra : v3.heap[ja]? = some (.cells #[.int .i64 0, .int .i64 0, .slice none 0 0] 30 (0, 0)) := by rw [← hv3.out, ← hja.out]; exact heap_alloc_new v2 _
            have bb3 : Below v2.heap.size v2 v3 := by rw [← hv3.out]; exact (Below.refl _ _).alloc (Nat.le_refl _) _
            have za : v2.heap.size = ja ∧ v3.heap.size = ja + 1 := by rw [← hv3.out, ← hja.out]; simp
            have Za := Lib.hid za
            rw [hv3.out, hja.out]
            refine hK.out _ _ (keep5 hHeld bb3) (fun hHeld => ?_)
            clear hK K; (try simp only [Act.put, List.setIfInBounds_toArray, List.set_cons_zero, List.set_cons_succ])
            have R3 := R2.below bb3
            have B3 := B2.trans (bb3.mono S2)
            have S3 := B3.size
            have rd := (bb3.block jd (by have := Zd.out; have := Q1.out; have := Q2.out; omega)).trans rd
            have hPA := hPA.below bb3
            have hPB := hPB.below bb3
            have Q3 : Hid (v2.heap.size ≤ v3.heap.size) := bb3.size
            clear bb3 za
            have N : Hid (¬ jb = ja ∧ ¬ jb = jd ∧ ¬ b = ja ∧ ¬ b = jd ∧ ¬ ja = jd ∧ w2.heap.size ≤ ja ∧ w2.heap.size ≤ jd) := by have h1 := Za.out; have h2 := Zd.out; have h3 := Q1.out; have h4 := Q2.out; have h5 := Q3.out; refine ⟨?_, ?_, ?_, ?_, ?_, ?_, ?_⟩ <;> omega
            have NA : Hid ((ja < v1.heap.size ∨ v2.heap.size ≤ ja) ∧ (jd < v1.heap.size ∨ v2.heap.size ≤ jd)) := by have h1 := Za.out; have h2 := Zd.out; have h3 := Q1.out; have h4 := Q2.out; have h5 := Q3.out; refine ⟨?_, ?_⟩ <;> omega
            obtain ⟨n1_, n2_, n3_, n4_, n5_, n6_, n7_⟩ := N.out
            obtain ⟨na_, nd_⟩ := NA.out
            have hn1_ := hPA.len
            have hn2_ := hPB.len
            have HLA := Lib.hid hn1_
            have HLB := Lib.hid hn2_
            clear hn1_ hn2_
            have sa0 : v3.cell? ⟨ja, 0, none⟩ = some (.int .i64 0) := by rw [cell_of_row _ _ _ _ _ _ ra]; rfl
            have ga0 : v3.frozen? ⟨ja, 0, none⟩ = false := frozen_of_row _ _ _ _ _ ra
            have sa1 : v3.cell? ⟨ja, 1, none⟩ = some (.int .i64 0) := by rw [cell_of_row _ _ _ _ _ _ ra]; rfl
            have ga1 : v3.frozen? ⟨ja, 1, none⟩ = false := frozen_of_row _ _ _ _ _ ra
            have sa2 : v3.cell? ⟨ja, 2, none⟩ = some (.slice none 0 0) := by rw [cell_of_row _ _ _ _ _ _ ra]; rfl
            have ga2 : v3.frozen? ⟨ja, 2, none⟩ = false := frozen_of_row _ _ _ _ _ ra
            obtain ⟨v4, hv4⟩ : ∃ v, Hid ((((v3.setCell ⟨ja, 0, none⟩ (.int .i64 (wA w ⟨up, at'⟩))).setCell ⟨ja, 1, none⟩ (.int .i64 (hA h ⟨up, at'⟩))).setCell ⟨ja, 2, none⟩ (.slice A1 n1 c1)) = v) := ⟨_, rfl⟩
            refine wpAnyH_ready (rs := [11]) (by kernel_rfl) (by simp) ?_; refine AllReadyH.cons (o := _) rfl (fun K hK => ?_) AllReadyH.nil; go_simp
            rw [hv4.out]
            have ta := row_set (o := 2) (.slice A1 n1 c1) (row_set (o := 1) (.int .i64 (hA h ⟨up, at'⟩)) (row_set (o := 0) (.int .i64 (wA w ⟨up, at'⟩)) ra))
            rw [hv4.out] at ta
            have hfara : ∀ g, g ≠ ja → v4.heap[g]? = v3.heap[g]? := fun g hg => by rw [← hv4.out, row_far _ hg, row_far _ hg, row_far _ hg]
            refine hK.out _ _ ⟨cell_blk hHeld.1 (hfara jb n1_), cell_blk hHeld.2.1 (hfara jb n1_), cell_blk hHeld.2.2.1 (hfara jb n1_), cell_blk hHeld.2.2.2.1 (hfara b n3_), cell_blk hHeld.2.2.2.2 (hfara b n3_)⟩ (fun hHeld => ?_)
            clear hK K; (try simp only [Act.put, List.setIfInBounds_toArray, List.set_cons_zero, List.set_cons_succ])
            clear sa0 sa1 sa2 ga0 ga1 ga2
            have hPA := own_set (own_set (own_set hPA na_ 0 (.int .i64 (wA w ⟨up, at'⟩))) na_ 1 (.int .i64 (hA h ⟨up, at'⟩))) na_ 2 (.slice A1 n1 c1)
            have hPB := own_set (own_set (own_set hPB na_ 0 (.int .i64 (wA w ⟨up, at'⟩))) na_ 1 (.int .i64 (hA h ⟨up, at'⟩))) na_ 2 (.slice A1 n1 c1)
            rw [hv4.out] at hPA hPB
            have BB := below_set (below_set (below_set B3 n6_ (o := 0) (.int .i64 (wA w ⟨up, at'⟩))) n6_ (o := 1) (.int .i64 (hA h ⟨up, at'⟩))) n6_ (o := 2) (.slice A1 n1 c1)
            rw [hv4.out] at BB
            have rd := (hfara jd (fun e => n5_ e.symm)).trans rd
            have sd0 : v4.cell? ⟨jd, 0, none⟩ = some (.int .i64 0) := by rw [cell_of_row _ _ _ _ _ _ rd]; rfl
            have gd0 : v4.frozen? ⟨jd, 0, none⟩ = false := frozen_of_row _ _ _ _ _ rd
            have sd1 : v4.cell? ⟨jd, 1, none⟩ = some (.int .i64 0) := by rw [cell_of_row _ _ _ _ _ _ rd]; rfl
            have gd1 : v4.frozen? ⟨jd, 1, none⟩ = false := frozen_of_row _ _ _ _ _ rd
            have sd2 : v4.cell? ⟨jd, 2, none⟩ = some (.slice none 0 0) := by rw [cell_of_row _ _ _ _ _ _ rd]; rfl
            have gd2 : v4.frozen? ⟨jd, 2, none⟩ = false := frozen_of_row _ _ _ _ _ rd
            obtain ⟨v5, hv5⟩ : ∃ v, Hid ((((v4.setCell ⟨jd, 0, none⟩ (.int .i64 (wB w ⟨up, at'⟩))).setCell ⟨jd, 1, none⟩ (.int .i64 (hB h ⟨up, at'⟩))).setCell ⟨jd, 2, none⟩ (.slice A2 n2 c2)) = v) := ⟨_, rfl⟩
            refine wpAnyH_ready (rs := [12]) (by kernel_rfl) (by simp) ?_; refine AllReadyH.cons (o := _) rfl (fun K hK => ?_) AllReadyH.nil; go_simp
            rw [hv5.out]
            have td := row_set (o := 2) (.slice A2 n2 c2) (row_set (o := 1) (.int .i64 (hB h ⟨up, at'⟩)) (row_set (o := 0) (.int .i64 (wB w ⟨up, at'⟩)) rd))
            rw [hv5.out] at td
            have hfard : ∀ g, g ≠ jd → v5.heap[g]? = v4.heap[g]? := fun g hg => by rw [← hv5.out, row_far _ hg, row_far _ hg, row_far _ hg]
            refine hK.out _ _ ⟨cell_blk hHeld.1 (hfard jb n2_), cell_blk hHeld.2.1 (hfard jb n2_), cell_blk hHeld.2.2.1 (hfard jb n2_), cell_blk hHeld.2.2.2.1 (hfard b n4_), cell_blk hHeld.2.2.2.2 (hfard b n4_)⟩ (fun hHeld => ?_)
            clear hK K; (try simp only [Act.put, List.setIfInBounds_toArray, List.set_cons_zero, List.set_cons_succ])
            clear sd0 sd1 sd2 gd0 gd1 gd2
            have hPA := own_set (own_set (own_set hPA nd_ 0 (.int .i64 (wB w ⟨up, at'⟩))) nd_ 1 (.int .i64 (hB h ⟨up, at'⟩))) nd_ 2 (.slice A2 n2 c2)
            have hPB := own_set (own_set (own_set hPB nd_ 0 (.int .i64 (wB w ⟨up, at'⟩))) nd_ 1 (.int .i64 (hB h ⟨up, at'⟩))) nd_ 2 (.slice A2 n2 c2)
            rw [hv5.out] at hPA hPB
            have BB := below_set (below_set (below_set BB n7_ (o := 0) (.int .i64 (wB w ⟨up, at'⟩))) n7_ (o := 1) (.int .i64 (hB h ⟨up, at'⟩))) n7_ (o := 2) (.slice A2 n2 c2)
            rw [hv5.out] at BB
            have ra := (hfard ja n5_).trans ta
            have rd := td
            (refine take_yes (i := 13) (d := some 12) (v := ?_) rfl rfl (by kernel_rfl) (by kernel_rfl) (by kernel_rfl) (by rfl) (fun _ _ _ h => h) ?_ (by assumption) ?_; rotate_left; focus ((intro w' hSw; (try dsimp only at hSw); go_simp) <;> with_reducible rfl)); (try simp only [Act.put, List.setIfInBounds_toArray, List.set_cons_zero, List.set_cons_succ])
            refine wpAnyH_done (by kernel_rfl) ?_ _
            have ya0 : v5.cell? ⟨ja, 0, none⟩ = some (.int .i64 (wA w ⟨up, at'⟩)) := by rw [cell_of_row _ _ _ _ _ _ ra]; rfl
            have ya1 : v5.cell? ⟨ja, 1, none⟩ = some (.int .i64 (hA h ⟨up, at'⟩)) := by rw [cell_of_row _ _ _ _ _ _ ra]; rfl
            have ya2 : v5.cell? ⟨ja, 2, none⟩ = some (.slice A1 n1 c1) := by rw [cell_of_row _ _ _ _ _ _ ra]; rfl
            have yd0 : v5.cell? ⟨jd, 0, none⟩ = some (.int .i64 (wB w ⟨up, at'⟩)) := by rw [cell_of_row _ _ _ _ _ _ rd]; rfl
            have yd1 : v5.cell? ⟨jd, 1, none⟩ = some (.int .i64 (hB h ⟨up, at'⟩)) := by rw [cell_of_row _ _ _ _ _ _ rd]; rfl
            have yd2 : v5.cell? ⟨jd, 2, none⟩ = some (.slice A2 n2 c2) := by rw [cell_of_row _ _ _ _ _ _ rd]; rfl
            have hn1 : n1 ≤ 1048576 := by have h1 := HLA.out; have h2 := pA_len ⟨up, at'⟩ ps; have h3 := HLEN.out; omega
            have hn2 : n2 ≤ 1048576 := by have h1 := HLB.out; have h2 := pB_len ⟨up, at'⟩ ps; have h3 := HLEN.out; omega
            have hPA := hPA.rd
            have hPB := hPB.rd
            have BS := BB.size
            clear ra rd ta td hfara hfard hHeld n1_ n2_ n3_ n4_ n5_ n6_ n7_ na_ nd_
            go_wp2_with fail
            go_meet
            exact ⟨ja, jd, A1, n1, c1, A2, n2, c2, rfl, rfl, rfl, ya0, ya1, ya2, yd0, yd1, yd2, hPA, hPB, BB⟩
        · go_simp
          obtain ⟨ja, hja⟩ : ∃ j, Hid (v1.heap.size = j) := ⟨_, rfl⟩
          obtain ⟨v2, hv2⟩ : ∃ v, Hid (v1.alloc (.cells #[.int .i64 0, .int .i64 0, .slice none 0 0] 30) = v) := ⟨_, rfl⟩
          have ra : v2.heap[ja]? = some (.cells #[.int .i64 0, .int .i64 0, .slice none 0 0] 30 (0, 0)) := by rw [← hv2.out, ← hja.out]; exact heap_alloc_new v1 _
          have bb2 : Below v1.heap.size v1 v2 := by rw [← hv2.out]; exact (Below.refl _ _).alloc (Nat.le_refl _) _
          have za : v1.heap.size = ja ∧ v2.heap.size = ja + 1 := by rw [← hv2.out, ← hja.out]; simp
          have Za := Lib.hid za
          rw [hv2.out, hja.out]
          refine hK.out _ _ (keep5 hHeld bb2) (fun hHeld => ?_)
          clear hK K; (try simp only [Act.put, List.setIfInBounds_toArray, List.set_cons_zero, List.set_cons_succ])
          have R2 := R1.below bb2
          have B2 := B1.trans (bb2.mono S1)
          have S2 := B2.size
          have rd := (bb2.block jd (by have := Zd.out; have := Q1.out; omega)).trans rd
          have Q2 : Hid (v1.heap.size ≤ v2.heap.size) := bb2.size
          clear bb2 za
          refine wpAnyH_ready (rs := [4]) (by kernel_rfl) (by simp) ?_
          refine AllReadyH.cons (o := _) rfl (fun K hK => ?_) AllReadyH.nil
          · go_simp
            refine (splitS_any w h A n c ps up at' _ R2 hN HK.out).mono ?_
            rintro e v3 ⟨A1, n1, c1, A2, n2, c2, rfl, hPA, hPB, bb3⟩
            have hlo3 := bb3.size
            refine hK.out _ _ (keep5 hHeld bb3) (fun hHeld => ?_)
            clear hK K; (try simp only [Act.put, List.setIfInBounds_toArray, List.set_cons_zero, List.set_cons_succ])
            have R3 := R2.below bb3
            have B3 := B2.trans (bb3.mono S2)
            have S3 := B3.size
            have ra := (bb3.block ja (by have := Za.out; have := Q1.out; have := Q2.out; omega)).trans ra
            have rd := (bb3.block jd (by have := Zd.out; have := Q1.out; have := Q2.out; omega)).trans rd
            have Q3 : Hid (v2.heap.size ≤ v3.heap.size) := bb3.size
            clear bb3 hlo3
            (refine take_yes (i := 5) (d := some 38) (v := ?_) rfl rfl (by kernel_rfl) (by kernel_rfl) (by kernel_rfl) (by rfl) (fun _ _ _ h => h) ?_ (by assumption) ?_; rotate_left; focus ((intro w' hSw; (try dsimp only at hSw); go_simp) <;> with_reducible rfl)); (try simp only [Act.put, List.setIfInBounds_toArray, List.set_cons_zero, List.set_cons_succ])
            (refine take_yes (i := 6) (d := some 44) (v := ?_) rfl rfl (by kernel_rfl) (by kernel_rfl) (by kernel_rfl) (by rfl) (fun _ _ _ h => h) ?_ (by assumption) ?_; rotate_left; focus ((intro w' hSw; (try dsimp only at hSw); go_simp) <;> with_reducible rfl)); (try simp only [Act.put, List.setIfInBounds_toArray, List.set_cons_zero, List.set_cons_succ])
            (refine take_yes (i := 7) (d := some 45) (v := ?_) rfl rfl (by kernel_rfl) (by kernel_rfl) (by kernel_rfl) (by rfl) (fun _ _ _ h => h) ?_ (by assumption) ?_; rotate_left; focus ((intro w' hSw; (try dsimp only at hSw); go_simp) <;> with_reducible rfl)); (try simp only [Act.put, List.setIfInBounds_toArray, List.set_cons_zero, List.set_cons_succ])
            (refine take_yes (i := 8) (d := some 46) (v := ?_) rfl rfl (by kernel_rfl) (by kernel_rfl) (by kernel_rfl) (by rfl) (fun _ _ _ h => h) ?_ (by assumption) ?_; rotate_left; focus ((intro w' hSw; (try dsimp only at hSw); go_simp) <;> with_reducible rfl)); (try simp only [Act.put, List.setIfInBounds_toArray, List.set_cons_zero, List.set_cons_succ])
            have N : Hid (¬ jb = ja ∧ ¬ jb = jd ∧ ¬ b = ja ∧ ¬ b = jd ∧ ¬ ja = jd ∧ w2.heap.size ≤ ja ∧ w2.heap.size ≤ jd) := by have h1 := Za.out; have h2 := Zd.out; have h3 := Q1.out; have h4 := Q2.out; have h5 := Q3.out; refine ⟨?_, ?_, ?_, ?_, ?_, ?_, ?_⟩ <;> omega
            have NA : Hid ((ja < v2.heap.size ∨ v3.heap.size ≤ ja) ∧ (jd < v2.heap.size ∨ v3.heap.size ≤ jd)) := by have h1 := Za.out; have h2 := Zd.out; have h3 := Q1.out; have h4 := Q2.out; have h5 := Q3.out; refine ⟨?_, ?_⟩ <;> omega
            obtain ⟨n1_, n2_, n3_, n4_, n5_, n6_, n7_⟩ := N.out
            obtain ⟨na_, nd_⟩ := NA.out
            have hn1_ := hPA.len
            have hn2_ := hPB.len
            have HLA := Lib.hid hn1_
            have HLB := Lib.hid hn2_
            clear hn1_ hn2_
            have sa0 : v3.cell? ⟨ja, 0, none⟩ = some (.int .i64 0) := by rw [cell_of_row _ _ _ _ _ _ ra]; rfl
            have ga0 : v3.frozen? ⟨ja, 0, none⟩ = false := frozen_of_row _ _ _ _ _ ra
            have sa1 : v3.cell? ⟨ja, 1, none⟩ = some (.int .i64 0) := by rw [cell_of_row _ _ _ _ _ _ ra]; rfl
            have ga1 : v3.frozen? ⟨ja, 1, none⟩ = false := frozen_of_row _ _ _ _ _ ra
            have sa2 : v3.cell? ⟨ja, 2, none⟩ = some (.slice none 0 0) := by rw [cell_of_row _ _ _ _ _ _ ra]; rfl
            have ga2 : v3.frozen? ⟨ja, 2, none⟩ = false := frozen_of_row _ _ _ _ _ ra
            obtain ⟨v4, hv4⟩ : ∃ v, Hid ((((v3.setCell ⟨ja, 0, none⟩ (.int .i64 (wA w ⟨up, at'⟩))).setCell ⟨ja, 1, none⟩ (.int .i64 (hA h ⟨up, at'⟩))).setCell ⟨ja, 2, none⟩ (.slice A1 n1 c1)) = v) := ⟨_, rfl⟩
            refine wpAnyH_ready (rs := [11]) (by kernel_rfl) (by simp) ?_; refine AllReadyH.cons (o := _) rfl (fun K hK => ?_) AllReadyH.nil; go_simp
            rw [hv4.out]
            have ta := row_set (o := 2) (.slice A1 n1 c1) (row_set (o := 1) (.int .i64 (hA h ⟨up, at'⟩)) (row_set (o := 0) (.int .i64 (wA w ⟨up, at'⟩)) ra))
            rw [hv4.out] at ta
            have hfara : ∀ g, g ≠ ja → v4.heap[g]? = v3.heap[g]? := fun g hg => by rw [← hv4.out, row_far _ hg, row_far _ hg, row_far _ hg]
            refine hK.out _ _ ⟨cell_blk hHeld.1 (hfara jb n1_), cell_blk hHeld.2.1 (hfara jb n1_), cell_blk hHeld.2.2.1 (hfara jb n1_), cell_blk hHeld.2.2.2.1 (hfara b n3_), cell_blk hHeld.2.2.2.2 (hfara b n3_)⟩ (fun hHeld => ?_)
            clear hK K; (try simp only [Act.put, List.setIfInBounds_toArray, List.set_cons_zero, List.set_cons_succ])
            clear sa0 sa1 sa2 ga0 ga1 ga2
            have hPA := own_set (own_set (own_set hPA na_ 0 (.int .i64 (wA w ⟨up, at'⟩))) na_ 1 (.int .i64 (hA h ⟨up, at'⟩))) na_ 2 (.slice A1 n1 c1)
            have hPB := own_set (own_set (own_set hPB na_ 0 (.int .i64 (wA w ⟨up, at'⟩))) na_ 1 (.int .i64 (hA h ⟨up, at'⟩))) na_ 2 (.slice A1 n1 c1)
            rw [hv4.out] at hPA hPB
            have BB := below_set (below_set (below_set B3 n6_ (o := 0) (.int .i64 (wA w ⟨up, at'⟩))) n6_ (o := 1) (.int .i64 (hA h ⟨up, at'⟩))) n6_ (o := 2) (.slice A1 n1 c1)
            rw [hv4.out] at BB
            have rd := (hfara jd (fun e => n5_ e.symm)).trans rd
            have sd0 : v4.cell? ⟨jd, 0, none⟩ = some (.int .i64 0) := by rw [cell_of_row _ _ _ _ _ _ rd]; rfl
            have gd0 : v4.frozen? ⟨jd, 0, none⟩ = false := frozen_of_row _ _ _ _ _ rd
            have sd1 : v4.cell? ⟨jd, 1, none⟩ = some (.int .i64 0) := by rw [cell_of_row _ _ _ _ _ _ rd]; rfl
            have gd1 : v4.frozen? ⟨jd, 1, none⟩ = false := frozen_of_row _ _ _ _ _ rd
            have sd2 : v4.cell? ⟨jd, 2, none⟩ = some (.slice none 0 0) := by rw [cell_of_row _ _ _ _ _ _ rd]; rfl
            have gd2 : v4.frozen? ⟨jd, 2, none⟩ = false := frozen_of_row _ _ _ _ _ rd
            obtain ⟨v5, hv5⟩ : ∃ v, Hid ((((v4.setCell ⟨jd, 0, none⟩ (.int .i64 (wB w ⟨up, at'⟩))).setCell ⟨jd, 1, none⟩ (.int .i64 (hB h ⟨up, at'⟩))).setCell ⟨jd, 2, none⟩ (.slice A2 n2 c2)) = v) := ⟨_, rfl⟩
            refine wpAnyH_ready (rs := [12]) (by kernel_rfl) (by simp) ?_; refine AllReadyH.cons (o := _) rfl (fun K hK => ?_) AllReadyH.nil; go_simp
            rw [hv5.out]
            have td := row_set (o := 2) (.slice A2 n2 c2) (row_set (o := 1) (.int .i64 (hB h ⟨up, at'⟩)) (row_set (o := 0) (.int .i64 (wB w ⟨up, at'⟩)) rd))
            rw [hv5.out] at td
            have hfard : ∀ g, g ≠ jd → v5.heap[g]? = v4.heap[g]? := fun g hg => by rw [← hv5.out, row_far _ hg, row_far _ hg, row_far _ hg]
            refine hK.out _ _ ⟨cell_blk hHeld.1 (hfard jb n2_), cell_blk hHeld.2.1 (hfard jb n2_), cell_blk hHeld.2.2.1 (hfard jb n2_), cell_blk hHeld.2.2.2.1 (hfard b n4_), cell_blk hHeld.2.2.2.2 (hfard b n4_)⟩ (fun hHeld => ?_)
            clear hK K; (try simp only [Act.put, List.setIfInBounds_toArray, List.set_cons_zero, List.set_cons_succ])
            clear sd0 sd1 sd2 gd0 gd1 gd2
            have hPA := own_set (own_set (own_set hPA nd_ 0 (.int .i64 (wB w ⟨up, at'⟩))) nd_ 1 (.int .i64 (hB h ⟨up, at'⟩))) nd_ 2 (.slice A2 n2 c2)
            have hPB := own_set (own_set (own_set hPB nd_ 0 (.int .i64 (wB w ⟨up, at'⟩))) nd_ 1 (.int .i64 (hB h ⟨up, at'⟩))) nd_ 2 (.slice A2 n2 c2)
            rw [hv5.out] at hPA hPB
            have BB := below_set (below_set (below_set BB n7_ (o := 0) (.int .i64 (wB w ⟨up, at'⟩))) n7_ (o := 1) (.int .i64 (hB h ⟨up, at'⟩))) n7_ (o := 2) (.slice A2 n2 c2)
            rw [hv5.out] at BB
            have ra := (hfard ja n5_).trans ta
            have rd := td
            (refine take_yes (i := 13) (d := some 12) (v := ?_) rfl rfl (by kernel_rfl) (by kernel_rfl) (by kernel_rfl) (by rfl) (fun _ _ _ h => h) ?_ (by assumption) ?_; rotate_left; focus ((intro w' hSw; (try dsimp only at hSw); go_simp) <;> with_reducible rfl)); (try simp only [Act.put, List.setIfInBounds_toArray, List.set_cons_zero, List.set_cons_succ])
            refine wpAnyH_done (by kernel_rfl) ?_ _
            have ya0 : v5.cell? ⟨ja, 0, none⟩ = some (.int .i64 (wA w ⟨up, at'⟩)) := by rw [cell_of_row _ _ _ _ _ _ ra]; rfl
            have ya1 : v5.cell? ⟨ja, 1, none⟩ = some (.int .i64 (hA h ⟨up, at'⟩)) := by rw [cell_of_row _ _ _ _ _ _ ra]; rfl
            have ya2 : v5.cell? ⟨ja, 2, none⟩ = some (.slice A1 n1 c1) := by rw [cell_of_row _ _ _ _ _ _ ra]; rfl
            have yd0 : v5.cell? ⟨jd, 0, none⟩ = some (.int .i64 (wB w ⟨up, at'⟩)) := by rw [cell_of_row _ _ _ _ _ _ rd]; rfl
            have yd1 : v5.cell? ⟨jd, 1, none⟩ = some (.int .i64 (hB h ⟨up, at'⟩)) := by rw [cell_of_row _ _ _ _ _ _ rd]; rfl
            have yd2 : v5.cell? ⟨jd, 2, none⟩ = some (.slice A2 n2 c2) := by rw [cell_of_row _ _ _ _ _ _ rd]; rfl
            have hn1 : n1 ≤ 1048576 := by have h1 := HLA.out; have h2 := pA_len ⟨up, at'⟩ ps; have h3 := HLEN.out; omega
            have hn2 : n2 ≤ 1048576 := by have h1 := HLB.out; have h2 := pB_len ⟨up, at'⟩ ps; have h3 := HLEN.out; omega
            have hPA := hPA.rd
            have hPB := hPB.rd
            have BS := BB.size
            clear ra rd ta td hfara hfard hHeld n1_ n2_ n3_ n4_ n5_ n6_ n7_ na_ nd_
            go_wp2_with fail
            go_meet
            exact ⟨ja, jd, A1, n1, c1, A2, n2, c2, rfl, rfl, rfl, ya0, ya1, ya2, yd0, yd1, yd2, hPA, hPB, BB⟩
    case rest =>
      obtain ⟨ja, jd, A1, n1, c1, A2, n2, c2, rfl, rfl, rfl, ya0, ya1, ya2, yd0, yd1, yd2, hPA, hPB, hBx⟩ := hcut
      replace e0 := keepcell e0 hBx
      replace e1 := keepcell e1 hBx
      replace e2 := keepcell e2 hBx
      replace q0 := keepcell q0 hBx
      replace q1 := keepcell q1 hBx
      have hRx := hR2.below hBx; have hNx := hN2.below hBx; have hBW := hB2.trans (hBx.mono hs2)
      have hn1e := hPA.len; have hn2e := hPB.len
      have hsum : n1 + n2 = n := by have h1 := HLS.out; have h2 := HLEN.out; omega
      have hpos : 1 ≤ n1 ∧ 1 ≤ n2 := by have := HPO.out.2.2; omega
      have HN12 := Lib.hid (And.intro hn1e hn2e); clear hn1e hn2e
      clear hB2 hs2 hR2 hN2 hBx
      obtain ⟨v1, hv1⟩ : ∃ v, Hid (wc.alloc (.cells #[] 3) = v) := ⟨_, rfl⟩
      obtain ⟨v2, hv2⟩ : ∃ v, Hid (v1.alloc (.cells #[] 3) = v) := ⟨_, rfl⟩
      obtain ⟨z1, hz1⟩ : ∃ j, Hid (wc.heap.size = j) := ⟨_, rfl⟩
      have hza : v1.heap.size = z1 + 1 := by rw [← hv1.out, ← hz1.out]; simp
      have hac1 : Acc v1 z1 3 1 (.slice (some ⟨z1, 0, none⟩) 0 0) ([] : List Int) intC := by rw [← hv1.out]; exact Acc.lit0 wc z1 _ 1 intC (Nat.le_of_eq hz1.out.symm) hz1.out.symm
      have hac2 : Acc v2 z1 3 1 (.slice (some ⟨z1 + 1, 0, none⟩) 0 0) ([] : List Int) intC := by rw [← hv2.out]; exact Acc.lit0 v1 z1 _ 1 intC (by omega) hza.symm
      have bb1 : Below wc.heap.size wc v1 := by rw [← hv1.out]; exact (Below.refl _ _).alloc (Nat.le_refl _) _
      have bb2 : Below v1.heap.size v1 v2 := by rw [← hv2.out]; exact (Below.refl _ _).alloc (Nat.le_refl _) _
      have hac1b := hac1.below bb2
      have hbb : Below wc.heap.size wc v2 := bb1.trans (bb2.mono bb1.size)
      have hdis0 : Dis (.slice (some ⟨z1, 0, none⟩) 0 0) (.slice (some ⟨z1 + 1, 0, none⟩) 0 0) := fun g h1 h2 => by have e1 : z1 = g := (by simpa [Value.ownBlock] using h1); have e2 : z1 + 1 = g := (by simpa [Value.ownBlock] using h2); omega
      have hzl : z1 ≤ v2.heap.size := by have := bb2.size; omega
      clear bb1 bb2 hac1 hza
      go_wp2_with fail
      rw [hz1.out, hv1.out, hv2.out]
      have HYA := Lib.hid (And.intro ya0 (And.intro ya1 ya2)); have HYD := Lib.hid (And.intro yd0 (And.intro yd1 yd2)); have HPA := Lib.hid hPA; have HPB := Lib.hid hPB; have HQ := Lib.hid (And.intro q0 q1); have HE := Lib.hid (And.intro e0 (And.intro e1 e2))
      clear ya0 ya1 ya2 yd0 yd1 yd2 hPA hPB q0 q1 e0 e1 e2
      go_loopw [13, 14, 15] (fun s13 s14 i wr => ∃ (k : Nat) (va vd : Value), k ≤ n ∧ i = .int .i64 (k : Int) ∧ va = s13 ∧ vd = s14 ∧ Acc wr z1 3 1 va (numsOf ⟨up, at'⟩ ps true nums k) intC ∧ Acc wr z1 3 1 vd (numsOf ⟨up, at'⟩ ps false nums k) intC ∧ Dis va vd ∧ Below wc.heap.size wc wr) (fun _ _ i _ => n - (intOf i).toNat)
      case atStart => exact ⟨0, _, _, Nat.zero_le _, rfl, rfl, rfl, hac1b, hac2, hdis0, hbb⟩
      case round =>
        clear hac1b hac2 hdis0 hbb hzl
        obtain ⟨k, va, vd, hk, rfl, rfl, rfl, hacA, hacB, hdis, hB⟩ := hrel
        have hz := hB.size
        have hzw : z1 ≤ wr.heap.size := by have := hz1.out; omega
        have e0 := keepcell HE.out.1 hB
        have e1 := keepcell HE.out.2.1 hB
        have e2 := keepcell HE.out.2.2 hB
        have q0 := keepcell HQ.out.1 hB; have q1 := keepcell HQ.out.2 hB
        by_cases hlt : k < n
        · obtain ⟨bp, op, x, rfl, hbp, hx, g0, g1, g2, g3, g4⟩ := hRx.patch hlt hB
          obtain ⟨bn, on, y, rfl, hbn, hy, gy⟩ := hNx.int hlt hB
          have HX := Lib.hid hx; have HY := Lib.hid hy
          obtain ⟨x0, x1, x2, x3, x4⟩ := x
          simp only at g0 g1 g2 g3 g4
          obtain ⟨wp, hwp⟩ : ∃ v, Hid (wr.alloc (.cells #[.int .i64 x0, .int .i64 x1, .int .i64 x2, .int .i64 x3, .int .i64 x4] 44) = v) := ⟨_, rfl⟩
          obtain ⟨jp, hjp⟩ : ∃ j, Hid (wr.heap.size = j) := ⟨_, rfl⟩
          have rp : wp.heap[jp]? = some (.cells #[.int .i64 x0, .int .i64 x1, .int .i64 x2, .int .i64 x3, .int .i64 x4] 44 (0, 0)) := by rw [← hwp.out, ← hjp.out]; exact heap_alloc_new wr _
          have bpp : Below wr.heap.size wr wp := by rw [← hwp.out]; exact (Below.refl _ _).alloc (Nat.le_refl _) _
          have sp : wp.heap.size = jp + 1 := by rw [← hwp.out, ← hjp.out]; simp
          have gyp := keepcell gy bpp
          have q0p := keepcell q0 bpp
          have q1p := keepcell q1 bpp
          have p0 : wp.cell? ⟨jp, 0, none⟩ = some (.int .i64 x0) := by rw [cell_of_row _ _ _ _ _ _ rp]; rfl
          have p1 : wp.cell? ⟨jp, 1, none⟩ = some (.int .i64 x1) := by rw [cell_of_row _ _ _ _ _ _ rp]; rfl
          have hacAp := hacA.below bpp; have hacBp := hacB.below bpp
          have hBp : Below wc.heap.size wc wp := hB.trans (bpp.mono hz)
          have hzp : z1 ≤ wp.heap.size := Nat.le_trans hzw bpp.size
          have HGY := Lib.hid gyp
          have hkI : (k : Int) < (n : Int) := by omega
          have hlnA : (numsOf ⟨up, at'⟩ ps true nums k).length + 1 ≤ 4294967296 := by have := numsOf_len (c := ⟨up, at'⟩) (ps := ps) (first := true) (nums := nums) k; omega
          have hlnB : (numsOf ⟨up, at'⟩ ps false nums k).length + 1 ≤ 4294967296 := by have := numsOf_len (c := ⟨up, at'⟩) (ps := ps) (first := false) (nums := nums) k; omega
          have HQP := Lib.hid (And.intro q0p (And.intro q1p (And.intro p0 p1)))
          have HACP := Lib.hid (And.intro hacAp hacBp); have HBP := Lib.hid hBp; have HSP := Lib.hid sp
          clear hx hy rp bpp gyp hacA hacB hacAp hacBp hBp q0p q1p p0 p1 sp
          cases up
          · by_cases hge : at' ≤ x1
            · skip
              have hbf : before ⟨false, at'⟩ ⟨x0, x1, x2, x3, x4⟩ = false := by rw [before_no]; exact .inr ⟨rfl, hge⟩
              have hgeb : decide (x1 ≥ at') = true := decide_eq_true hge
              have HBF := Lib.hid hbf; clear hbf
              go_wp2_with (rw [hwp.out]; (try rw [hjp.out]))
              obtain ⟨q0p, q1p, p0, p1⟩ := HQP.out
              refine wp_region_held_drew (S := fun v => v.cell? ⟨b, off, none⟩ = some (.bool false) ∧ v.cell? ⟨b, off + 1, none⟩ = some (.int .i64 at') ∧ v.cell? ⟨jp, 0, none⟩ = some (.int .i64 x0) ∧ v.cell? ⟨jp, 1, none⟩ = some (.int .i64 x1)) (by kernel_rfl) ⟨keep_drew q0p, keep_drew q1p, keep_drew p0, keep_drew p1⟩ (fun hHeld => ?_)
              clear q0p q1p p0 p1
              (refine take_yes (i := 0) (d := some 61) (v := ?_) rfl rfl (by kernel_rfl) (by kernel_rfl) (by kernel_rfl) (by rfl) (fun _ _ _ h => h) ?_ (by assumption) ?_; rotate_left; focus ((intro w' hSw; (try dsimp only at hSw); go_simp) <;> with_reducible rfl)); (try simp only [Act.put, List.setIfInBounds_toArray, List.set_cons_zero, List.set_cons_succ])
              (refine take_yes (i := 1) (d := some 62) (v := ?_) rfl rfl (by kernel_rfl) (by kernel_rfl) (by kernel_rfl) (by rfl) (fun _ _ _ h => h) ?_ (by assumption) ?_; rotate_left; focus ((intro w' hSw; (try dsimp only at hSw); go_simp) <;> with_reducible rfl)); (try simp only [Act.put, List.setIfInBounds_toArray, List.set_cons_zero, List.set_cons_succ])
              (refine take_yes (i := 2) (d := some 63) (v := ?_) rfl rfl (by kernel_rfl) (by kernel_rfl) (by kernel_rfl) (by rfl) (fun _ _ _ h => h) ?_ (by assumption) ?_; rotate_left; focus ((intro w' hSw; (try dsimp only at hSw); go_simp) <;> with_reducible rfl)); (try simp only [Act.put, List.setIfInBounds_toArray, List.set_cons_zero, List.set_cons_succ])
              (refine take_yes (i := 3) (d := some 64) (v := ?_) rfl rfl (by kernel_rfl) (by kernel_rfl) (by kernel_rfl) (by rfl) (fun _ _ _ h => h) ?_ (by assumption) ?_; rotate_left; focus ((intro w' hSw; (try dsimp only at hSw); go_simp) <;> with_reducible rfl)); (try simp only [Act.put, List.setIfInBounds_toArray, List.set_cons_zero, List.set_cons_succ])
              (refine take_yes (i := 4) (d := some 65) (v := ?_) rfl rfl (by kernel_rfl) (by kernel_rfl) (by kernel_rfl) (by rfl) (fun _ _ _ h => h) ?_ (by assumption) ?_; rotate_left; focus ((intro w' hSw; (try dsimp only at hSw); go_simp) <;> with_reducible rfl)); (try simp only [Act.put, List.setIfInBounds_toArray, List.set_cons_zero, List.set_cons_succ])
              refine take_no (i := 5) (d := some 66) rfl rfl (by kernel_rfl) (by kernel_rfl) (by kernel_rfl) (by rfl) (fun _ _ _ h => h) (by assumption) ?_; (try simp only [Act.put, List.setIfInBounds_toArray, List.set_cons_zero, List.set_cons_succ])
              refine take_no (i := 6) (d := some 67) rfl rfl (by kernel_rfl) (by kernel_rfl) (by kernel_rfl) (by rfl) (fun _ _ _ h => h) (by assumption) ?_; (try simp only [Act.put, List.setIfInBounds_toArray, List.set_cons_zero, List.set_cons_succ])
              refine take_no (i := 7) (d := some 68) rfl rfl (by kernel_rfl) (by kernel_rfl) (by kernel_rfl) (by rfl) (fun _ _ _ h => h) (by assumption) ?_; (try simp only [Act.put, List.setIfInBounds_toArray, List.set_cons_zero, List.set_cons_succ])
              refine take_no (i := 8) (d := some 69) rfl rfl (by kernel_rfl) (by kernel_rfl) (by kernel_rfl) (by rfl) (fun _ _ _ h => h) (by assumption) ?_; (try simp only [Act.put, List.setIfInBounds_toArray, List.set_cons_zero, List.set_cons_succ])
              refine take_no (i := 9) (d := some 70) rfl rfl (by kernel_rfl) (by kernel_rfl) (by kernel_rfl) (by rfl) (fun _ _ _ h => h) (by assumption) ?_; (try simp only [Act.put, List.setIfInBounds_toArray, List.set_cons_zero, List.set_cons_succ])
              refine take_no (i := 10) (d := some 71) rfl rfl (by kernel_rfl) (by kernel_rfl) (by kernel_rfl) (by rfl) (fun _ _ _ h => h) (by assumption) ?_; (try simp only [Act.put, List.setIfInBounds_toArray, List.set_cons_zero, List.set_cons_succ])
              refine take_no (i := 11) (d := some 72) rfl rfl (by kernel_rfl) (by kernel_rfl) (by kernel_rfl) (by rfl) (fun _ _ _ h => h) (by assumption) ?_; (try simp only [Act.put, List.setIfInBounds_toArray, List.set_cons_zero, List.set_cons_succ])
              (refine take_yes (i := 12) (d := some 73) (v := ?_) rfl rfl (by kernel_rfl) (by kernel_rfl) (by kernel_rfl) (by rfl) (fun _ _ _ h => h) ?_ (by assumption) ?_; rotate_left; focus ((intro w' hSw; (try dsimp only at hSw); go_simp) <;> with_reducible rfl)); (try simp only [Act.put, List.setIfInBounds_toArray, List.set_cons_zero, List.set_cons_succ])
              (refine take_yes (i := 13) (d := some 74) (v := ?_) rfl rfl (by kernel_rfl) (by kernel_rfl) (by kernel_rfl) (by rfl) (fun _ _ _ h => h) ?_ (by assumption) ?_; rotate_left; focus ((intro w' hSw; (try dsimp only at hSw); go_simp) <;> with_reducible rfl)); (try simp only [Act.put, List.setIfInBounds_toArray, List.set_cons_zero, List.set_cons_succ])
              (refine take_yes (i := 14) (d := some 75) (v := ?_) rfl rfl (by kernel_rfl) (by kernel_rfl) (by kernel_rfl) (by rfl) (fun _ _ _ h => h) ?_ (by assumption) ?_; rotate_left; focus ((intro w' hSw; (try dsimp only at hSw); go_simp) <;> with_reducible rfl)); (try simp only [Act.put, List.setIfInBounds_toArray, List.set_cons_zero, List.set_cons_succ])
              (refine take_yes (i := 15) (d := some 76) (v := ?_) rfl rfl (by kernel_rfl) (by kernel_rfl) (by kernel_rfl) (by rfl) (fun _ _ _ h => h) ?_ (by assumption) ?_; rotate_left; focus ((intro w' hSw; (try dsimp only at hSw); go_simp) <;> with_reducible rfl)); (try simp only [Act.put, List.setIfInBounds_toArray, List.set_cons_zero, List.set_cons_succ])
              (refine take_yes (i := 16) (d := some 77) (v := ?_) rfl rfl (by kernel_rfl) (by kernel_rfl) (by kernel_rfl) (by rfl) (fun _ _ _ h => h) ?_ (by assumption) ?_; rotate_left; focus ((intro w' hSw; (try dsimp only at hSw); go_simp) <;> with_reducible rfl)); (try simp only [Act.put, List.setIfInBounds_toArray, List.set_cons_zero, List.set_cons_succ])
              (refine take_yes (i := 17) (d := some 78) (v := ?_) rfl rfl (by kernel_rfl) (by kernel_rfl) (by kernel_rfl) (by rfl) (fun _ _ _ h => h) ?_ (by assumption) ?_; rotate_left; focus ((intro w' hSw; (try dsimp only at hSw); go_simp) <;> with_reducible rfl)); (try simp only [Act.put, List.setIfInBounds_toArray, List.set_cons_zero, List.set_cons_succ])
              (refine take_yes (i := 18) (d := some 79) (v := ?_) rfl rfl (by kernel_rfl) (by kernel_rfl) (by kernel_rfl) (by rfl) (fun _ _ _ h => h) ?_ (by assumption) ?_; rotate_left; focus ((intro w' hSw; (try dsimp only at hSw); go_simp) <;> with_reducible rfl)); (try simp only [Act.put, List.setIfInBounds_toArray, List.set_cons_zero, List.set_cons_succ])
              (refine take_yes (i := 19) (d := some 80) (v := ?_) rfl rfl (by kernel_rfl) (by kernel_rfl) (by kernel_rfl) (by rfl) (fun _ _ _ h => h) ?_ (by assumption) ?_; rotate_left; focus ((intro w' hSw; (try dsimp only at hSw); go_simp) <;> with_reducible rfl)); (try simp only [Act.put, List.setIfInBounds_toArray, List.set_cons_zero, List.set_cons_succ])
              (refine take_yes (i := 20) (d := some 81) (v := ?_) rfl rfl (by kernel_rfl) (by kernel_rfl) (by kernel_rfl) (by rfl) (fun _ _ _ h => h) ?_ (by assumption) ?_; rotate_left; focus ((intro w' hSw; (try dsimp only at hSw); go_simp) <;> with_reducible rfl)); (try simp only [Act.put, List.setIfInBounds_toArray, List.set_cons_zero, List.set_cons_succ])
              (refine take_yes (i := 21) (d := some 82) (v := ?_) rfl rfl (by kernel_rfl) (by kernel_rfl) (by kernel_rfl) (by rfl) (fun _ _ _ h => h) ?_ (by assumption) ?_; rotate_left; focus ((intro w' hSw; (try dsimp only at hSw); go_simp) <;> with_reducible rfl)); (try simp only [Act.put, List.setIfInBounds_toArray, List.set_cons_zero, List.set_cons_succ])
              (refine take_yes (i := 22) (d := some 83) (v := ?_) rfl rfl (by kernel_rfl) (by kernel_rfl) (by kernel_rfl) (by rfl) (fun _ _ _ h => h) ?_ (by assumption) ?_; rotate_left; focus ((intro w' hSw; (try dsimp only at hSw); go_simp) <;> with_reducible rfl)); (try simp only [Act.put, List.setIfInBounds_toArray, List.set_cons_zero, List.set_cons_succ])
              (refine take_yes (i := 23) (d := some 84) (v := ?_) rfl rfl (by kernel_rfl) (by kernel_rfl) (by kernel_rfl) (by rfl) (fun _ _ _ h => h) ?_ (by assumption) ?_; rotate_left; focus ((intro w' hSw; (try dsimp only at hSw); go_simp) <;> with_reducible rfl)); (try simp only [Act.put, List.setIfInBounds_toArray, List.set_cons_zero, List.set_cons_succ])
              (refine take_yes (i := 24) (d := some 85) (v := ?_) rfl rfl (by kernel_rfl) (by kernel_rfl) (by kernel_rfl) (by rfl) (fun _ _ _ h => h) ?_ (by assumption) ?_; rotate_left; focus ((intro w' hSw; (try dsimp only at hSw); go_simp) <;> with_reducible rfl)); (try simp only [Act.put, List.setIfInBounds_toArray, List.set_cons_zero, List.set_cons_succ])
              (refine take_yes (i := 25) (d := some 86) (v := ?_) rfl rfl (by kernel_rfl) (by kernel_rfl) (by kernel_rfl) (by rfl) (fun _ _ _ h => h) ?_ (by assumption) ?_; rotate_left; focus ((intro w' hSw; (try dsimp only at hSw); go_simp) <;> with_reducible rfl)); (try simp only [Act.put, List.setIfInBounds_toArray, List.set_cons_zero, List.set_cons_succ])
              (refine take_yes (i := 26) (d := some 87) (v := ?_) rfl rfl (by kernel_rfl) (by kernel_rfl) (by kernel_rfl) (by rfl) (fun _ _ _ h => h) ?_ (by assumption) ?_; rotate_left; focus ((intro w' hSw; (try dsimp only at hSw); go_simp) <;> with_reducible rfl)); (try simp only [Act.put, List.setIfInBounds_toArray, List.set_cons_zero, List.set_cons_succ])
              (refine take_yes (i := 27) (d := some 88) (v := ?_) rfl rfl (by kernel_rfl) (by kernel_rfl) (by kernel_rfl) (by rfl) (fun _ _ _ h => h) ?_ (by assumption) ?_; rotate_left; focus ((intro w' hSw; (try dsimp only at hSw); go_simp) <;> with_reducible rfl)); (try simp only [Act.put, List.setIfInBounds_toArray, List.set_cons_zero, List.set_cons_succ])
              (refine take_yes (i := 28) (d := some 89) (v := ?_) rfl rfl (by kernel_rfl) (by kernel_rfl) (by kernel_rfl) (by rfl) (fun _ _ _ h => h) ?_ (by assumption) ?_; rotate_left; focus ((intro w' hSw; (try dsimp only at hSw); go_simp) <;> with_reducible rfl)); (try simp only [Act.put, List.setIfInBounds_toArray, List.set_cons_zero, List.set_cons_succ])
              refine wpAnyH_done (by kernel_rfl) ?_ _
              clear hHeld
              obtain ⟨hacAp, hacBp⟩ := HACP.out
              have hacAd : Acc (World.drew wp) z1 3 1 va (numsOf ⟨false, at'⟩ ps true nums k) intC := hacAp
              have hacBd : Acc (World.drew wp) z1 3 1 vd (numsOf ⟨false, at'⟩ ps false nums k) intC := hacBp
              have hBd : Below wc.heap.size wc (World.drew wp) := HBP.out.drew
              have hzd : z1 ≤ (World.drew wp).heap.size := hzp
              have gyd : (World.drew wp).cell? ⟨bn, on + k, none⟩ = some (.int .i64 y) := HGY.out
              obtain ⟨wq, hwq⟩ : ∃ v, Hid (World.drew wp = v) := ⟨_, rfl⟩
              rw [hwq.out] at hacAd hacBd hBd hzd gyd ⊢
              clear hacAp hacBp
              go_wp2_with (at_builtin; refine wpList_acc1 rfl _ _ 42 rfl z1 3 (.int .i64 0) 1 8 Try.underlying42 infoIntA rfl (by omega) _ _ intC y rfl hacBd _ _ rfl _ rfl (by simp) rfl (by simp [intC, Value.oneCell']) hlnB (by omega) hzd ?_; intro v7 w7 hacc7 hgrow7 hat7)
              go_roundw
              case rel =>
                rw [numsOf_yes HX.out HY.out HBF.out] at hacc7
                have hoth := hacAd.kept hgrow7 (fun g hg => hdis g hg)
                rw [numsOf_no (nums := nums) HX.out (by rw [HBF.out]; rfl)] at hoth
                have hrow : ∀ g, va.ownBlock = some g → g < wq.heap.size + 1 := fun g hg => by have := (hacAd.row hg).2; omega
                have hd7 := hdis.right hat7 hrow
                have hB7 := hacBd.grow_below hBd hgrow7 (Nat.le_of_eq hz1.out) hBd.size
                exact ⟨k + 1, _, _, by omega, by go_num, rfl, rfl, hoth, hacc7, hd7, hB7⟩
              case measure => simp [intOf]; omega
            · skip
              have hge2 : x1 < at' := by omega
              have hbf : before ⟨false, at'⟩ ⟨x0, x1, x2, x3, x4⟩ = true := by rw [before_iff]; exact .inr ⟨rfl, hge2⟩
              have hgeb : decide (x1 ≥ at') = false := decide_eq_false hge
              have HBF := Lib.hid hbf; clear hbf
              go_wp2_with (rw [hwp.out]; (try rw [hjp.out]))
              obtain ⟨q0p, q1p, p0, p1⟩ := HQP.out
              refine wp_region_held_drew (S := fun v => v.cell? ⟨b, off, none⟩ = some (.bool false) ∧ v.cell? ⟨b, off + 1, none⟩ = some (.int .i64 at') ∧ v.cell? ⟨jp, 0, none⟩ = some (.int .i64 x0) ∧ v.cell? ⟨jp, 1, none⟩ = some (.int .i64 x1)) (by kernel_rfl) ⟨keep_drew q0p, keep_drew q1p, keep_drew p0, keep_drew p1⟩ (fun hHeld => ?_)
              clear q0p q1p p0 p1
              (refine take_yes (i := 0) (d := some 61) (v := ?_) rfl rfl (by kernel_rfl) (by kernel_rfl) (by kernel_rfl) (by rfl) (fun _ _ _ h => h) ?_ (by assumption) ?_; rotate_left; focus ((intro w' hSw; (try dsimp only at hSw); go_simp) <;> with_reducible rfl)); (try simp only [Act.put, List.setIfInBounds_toArray, List.set_cons_zero, List.set_cons_succ])
              (refine take_yes (i := 1) (d := some 62) (v := ?_) rfl rfl (by kernel_rfl) (by kernel_rfl) (by kernel_rfl) (by rfl) (fun _ _ _ h => h) ?_ (by assumption) ?_; rotate_left; focus ((intro w' hSw; (try dsimp only at hSw); go_simp) <;> with_reducible rfl)); (try simp only [Act.put, List.setIfInBounds_toArray, List.set_cons_zero, List.set_cons_succ])
              (refine take_yes (i := 2) (d := some 63) (v := ?_) rfl rfl (by kernel_rfl) (by kernel_rfl) (by kernel_rfl) (by rfl) (fun _ _ _ h => h) ?_ (by assumption) ?_; rotate_left; focus ((intro w' hSw; (try dsimp only at hSw); go_simp) <;> with_reducible rfl)); (try simp only [Act.put, List.setIfInBounds_toArray, List.set_cons_zero, List.set_cons_succ])
              (refine take_yes (i := 3) (d := some 64) (v := ?_) rfl rfl (by kernel_rfl) (by kernel_rfl) (by kernel_rfl) (by rfl) (fun _ _ _ h => h) ?_ (by assumption) ?_; rotate_left; focus ((intro w' hSw; (try dsimp only at hSw); go_simp) <;> with_reducible rfl)); (try simp only [Act.put, List.setIfInBounds_toArray, List.set_cons_zero, List.set_cons_succ])
              (refine take_yes (i := 4) (d := some 65) (v := ?_) rfl rfl (by kernel_rfl) (by kernel_rfl) (by kernel_rfl) (by rfl) (fun _ _ _ h => h) ?_ (by assumption) ?_; rotate_left; focus ((intro w' hSw; (try dsimp only at hSw); go_simp) <;> with_reducible rfl)); (try simp only [Act.put, List.setIfInBounds_toArray, List.set_cons_zero, List.set_cons_succ])
              refine take_no (i := 5) (d := some 66) rfl rfl (by kernel_rfl) (by kernel_rfl) (by kernel_rfl) (by rfl) (fun _ _ _ h => h) (by assumption) ?_; (try simp only [Act.put, List.setIfInBounds_toArray, List.set_cons_zero, List.set_cons_succ])
              refine take_no (i := 6) (d := some 67) rfl rfl (by kernel_rfl) (by kernel_rfl) (by kernel_rfl) (by rfl) (fun _ _ _ h => h) (by assumption) ?_; (try simp only [Act.put, List.setIfInBounds_toArray, List.set_cons_zero, List.set_cons_succ])
              refine take_no (i := 7) (d := some 68) rfl rfl (by kernel_rfl) (by kernel_rfl) (by kernel_rfl) (by rfl) (fun _ _ _ h => h) (by assumption) ?_; (try simp only [Act.put, List.setIfInBounds_toArray, List.set_cons_zero, List.set_cons_succ])
              refine take_no (i := 8) (d := some 69) rfl rfl (by kernel_rfl) (by kernel_rfl) (by kernel_rfl) (by rfl) (fun _ _ _ h => h) (by assumption) ?_; (try simp only [Act.put, List.setIfInBounds_toArray, List.set_cons_zero, List.set_cons_succ])
              refine take_no (i := 9) (d := some 70) rfl rfl (by kernel_rfl) (by kernel_rfl) (by kernel_rfl) (by rfl) (fun _ _ _ h => h) (by assumption) ?_; (try simp only [Act.put, List.setIfInBounds_toArray, List.set_cons_zero, List.set_cons_succ])
              refine take_no (i := 10) (d := some 71) rfl rfl (by kernel_rfl) (by kernel_rfl) (by kernel_rfl) (by rfl) (fun _ _ _ h => h) (by assumption) ?_; (try simp only [Act.put, List.setIfInBounds_toArray, List.set_cons_zero, List.set_cons_succ])
              refine take_no (i := 11) (d := some 72) rfl rfl (by kernel_rfl) (by kernel_rfl) (by kernel_rfl) (by rfl) (fun _ _ _ h => h) (by assumption) ?_; (try simp only [Act.put, List.setIfInBounds_toArray, List.set_cons_zero, List.set_cons_succ])
              (refine take_yes (i := 12) (d := some 73) (v := ?_) rfl rfl (by kernel_rfl) (by kernel_rfl) (by kernel_rfl) (by rfl) (fun _ _ _ h => h) ?_ (by assumption) ?_; rotate_left; focus ((intro w' hSw; (try dsimp only at hSw); go_simp) <;> with_reducible rfl)); (try simp only [Act.put, List.setIfInBounds_toArray, List.set_cons_zero, List.set_cons_succ])
              (refine take_yes (i := 13) (d := some 74) (v := ?_) rfl rfl (by kernel_rfl) (by kernel_rfl) (by kernel_rfl) (by rfl) (fun _ _ _ h => h) ?_ (by assumption) ?_; rotate_left; focus ((intro w' hSw; (try dsimp only at hSw); go_simp) <;> with_reducible rfl)); (try simp only [Act.put, List.setIfInBounds_toArray, List.set_cons_zero, List.set_cons_succ])
              (refine take_yes (i := 14) (d := some 75) (v := ?_) rfl rfl (by kernel_rfl) (by kernel_rfl) (by kernel_rfl) (by rfl) (fun _ _ _ h => h) ?_ (by assumption) ?_; rotate_left; focus ((intro w' hSw; (try dsimp only at hSw); go_simp) <;> with_reducible rfl)); (try simp only [Act.put, List.setIfInBounds_toArray, List.set_cons_zero, List.set_cons_succ])
              (refine take_yes (i := 15) (d := some 76) (v := ?_) rfl rfl (by kernel_rfl) (by kernel_rfl) (by kernel_rfl) (by rfl) (fun _ _ _ h => h) ?_ (by assumption) ?_; rotate_left; focus ((intro w' hSw; (try dsimp only at hSw); go_simp) <;> with_reducible rfl)); (try simp only [Act.put, List.setIfInBounds_toArray, List.set_cons_zero, List.set_cons_succ])
              (refine take_yes (i := 16) (d := some 77) (v := ?_) rfl rfl (by kernel_rfl) (by kernel_rfl) (by kernel_rfl) (by rfl) (fun _ _ _ h => h) ?_ (by assumption) ?_; rotate_left; focus ((intro w' hSw; (try dsimp only at hSw); go_simp) <;> with_reducible rfl)); (try simp only [Act.put, List.setIfInBounds_toArray, List.set_cons_zero, List.set_cons_succ])
              (refine take_yes (i := 17) (d := some 78) (v := ?_) rfl rfl (by kernel_rfl) (by kernel_rfl) (by kernel_rfl) (by rfl) (fun _ _ _ h => h) ?_ (by assumption) ?_; rotate_left; focus ((intro w' hSw; (try dsimp only at hSw); go_simp) <;> with_reducible rfl)); (try simp only [Act.put, List.setIfInBounds_toArray, List.set_cons_zero, List.set_cons_succ])
              (refine take_yes (i := 18) (d := some 79) (v := ?_) rfl rfl (by kernel_rfl) (by kernel_rfl) (by kernel_rfl) (by rfl) (fun _ _ _ h => h) ?_ (by assumption) ?_; rotate_left; focus ((intro w' hSw; (try dsimp only at hSw); go_simp) <;> with_reducible rfl)); (try simp only [Act.put, List.setIfInBounds_toArray, List.set_cons_zero, List.set_cons_succ])
              (refine take_yes (i := 19) (d := some 80) (v := ?_) rfl rfl (by kernel_rfl) (by kernel_rfl) (by kernel_rfl) (by rfl) (fun _ _ _ h => h) ?_ (by assumption) ?_; rotate_left; focus ((intro w' hSw; (try dsimp only at hSw); go_simp) <;> with_reducible rfl)); (try simp only [Act.put, List.setIfInBounds_toArray, List.set_cons_zero, List.set_cons_succ])
              (refine take_yes (i := 20) (d := some 81) (v := ?_) rfl rfl (by kernel_rfl) (by kernel_rfl) (by kernel_rfl) (by rfl) (fun _ _ _ h => h) ?_ (by assumption) ?_; rotate_left; focus ((intro w' hSw; (try dsimp only at hSw); go_simp) <;> with_reducible rfl)); (try simp only [Act.put, List.setIfInBounds_toArray, List.set_cons_zero, List.set_cons_succ])
              (refine take_yes (i := 21) (d := some 82) (v := ?_) rfl rfl (by kernel_rfl) (by kernel_rfl) (by kernel_rfl) (by rfl) (fun _ _ _ h => h) ?_ (by assumption) ?_; rotate_left; focus ((intro w' hSw; (try dsimp only at hSw); go_simp) <;> with_reducible rfl)); (try simp only [Act.put, List.setIfInBounds_toArray, List.set_cons_zero, List.set_cons_succ])
              (refine take_yes (i := 22) (d := some 83) (v := ?_) rfl rfl (by kernel_rfl) (by kernel_rfl) (by kernel_rfl) (by rfl) (fun _ _ _ h => h) ?_ (by assumption) ?_; rotate_left; focus ((intro w' hSw; (try dsimp only at hSw); go_simp) <;> with_reducible rfl)); (try simp only [Act.put, List.setIfInBounds_toArray, List.set_cons_zero, List.set_cons_succ])
              (refine take_yes (i := 23) (d := some 84) (v := ?_) rfl rfl (by kernel_rfl) (by kernel_rfl) (by kernel_rfl) (by rfl) (fun _ _ _ h => h) ?_ (by assumption) ?_; rotate_left; focus ((intro w' hSw; (try dsimp only at hSw); go_simp) <;> with_reducible rfl)); (try simp only [Act.put, List.setIfInBounds_toArray, List.set_cons_zero, List.set_cons_succ])
              (refine take_yes (i := 24) (d := some 85) (v := ?_) rfl rfl (by kernel_rfl) (by kernel_rfl) (by kernel_rfl) (by rfl) (fun _ _ _ h => h) ?_ (by assumption) ?_; rotate_left; focus ((intro w' hSw; (try dsimp only at hSw); go_simp) <;> with_reducible rfl)); (try simp only [Act.put, List.setIfInBounds_toArray, List.set_cons_zero, List.set_cons_succ])
              (refine take_yes (i := 25) (d := some 86) (v := ?_) rfl rfl (by kernel_rfl) (by kernel_rfl) (by kernel_rfl) (by rfl) (fun _ _ _ h => h) ?_ (by assumption) ?_; rotate_left; focus ((intro w' hSw; (try dsimp only at hSw); go_simp) <;> with_reducible rfl)); (try simp only [Act.put, List.setIfInBounds_toArray, List.set_cons_zero, List.set_cons_succ])
              (refine take_yes (i := 26) (d := some 87) (v := ?_) rfl rfl (by kernel_rfl) (by kernel_rfl) (by kernel_rfl) (by rfl) (fun _ _ _ h => h) ?_ (by assumption) ?_; rotate_left; focus ((intro w' hSw; (try dsimp only at hSw); go_simp) <;> with_reducible rfl)); (try simp only [Act.put, List.setIfInBounds_toArray, List.set_cons_zero, List.set_cons_succ])
              (refine take_yes (i := 27) (d := some 88) (v := ?_) rfl rfl (by kernel_rfl) (by kernel_rfl) (by kernel_rfl) (by rfl) (fun _ _ _ h => h) ?_ (by assumption) ?_; rotate_left; focus ((intro w' hSw; (try dsimp only at hSw); go_simp) <;> with_reducible rfl)); (try simp only [Act.put, List.setIfInBounds_toArray, List.set_cons_zero, List.set_cons_succ])
              (refine take_yes (i := 28) (d := some 89) (v := ?_) rfl rfl (by kernel_rfl) (by kernel_rfl) (by kernel_rfl) (by rfl) (fun _ _ _ h => h) ?_ (by assumption) ?_; rotate_left; focus ((intro w' hSw; (try dsimp only at hSw); go_simp) <;> with_reducible rfl)); (try simp only [Act.put, List.setIfInBounds_toArray, List.set_cons_zero, List.set_cons_succ])
              refine wpAnyH_done (by kernel_rfl) ?_ _
              clear hHeld
              obtain ⟨hacAp, hacBp⟩ := HACP.out
              have hacAd : Acc (World.drew wp) z1 3 1 va (numsOf ⟨false, at'⟩ ps true nums k) intC := hacAp
              have hacBd : Acc (World.drew wp) z1 3 1 vd (numsOf ⟨false, at'⟩ ps false nums k) intC := hacBp
              have hBd : Below wc.heap.size wc (World.drew wp) := HBP.out.drew
              have hzd : z1 ≤ (World.drew wp).heap.size := hzp
              have gyd : (World.drew wp).cell? ⟨bn, on + k, none⟩ = some (.int .i64 y) := HGY.out
              obtain ⟨wq, hwq⟩ : ∃ v, Hid (World.drew wp = v) := ⟨_, rfl⟩
              rw [hwq.out] at hacAd hacBd hBd hzd gyd ⊢
              clear hacAp hacBp
              go_wp2_with (at_builtin; refine wpList_acc1 rfl _ _ 42 rfl z1 3 (.int .i64 0) 1 8 Try.underlying42 infoIntA rfl (by omega) _ _ intC y rfl hacAd _ _ rfl _ rfl (by simp) rfl (by simp [intC, Value.oneCell']) hlnA (by omega) hzd ?_; intro v7 w7 hacc7 hgrow7 hat7)
              go_roundw
              case rel =>
                rw [numsOf_yes HX.out HY.out HBF.out] at hacc7
                have hoth := hacBd.kept hgrow7 (fun g hg => hdis.symm g hg)
                rw [numsOf_no (nums := nums) HX.out (by rw [HBF.out]; rfl)] at hoth
                have hrow : ∀ g, vd.ownBlock = some g → g < wq.heap.size + 1 := fun g hg => by have := (hacBd.row hg).2; omega
                have hd7 := hdis.left hat7 hrow
                have hB7 := hacAd.grow_below hBd hgrow7 (Nat.le_of_eq hz1.out) hBd.size
                exact ⟨k + 1, _, _, by omega, by go_num, rfl, rfl, hacc7, hoth, hd7, hB7⟩
              case measure => simp [intOf]; omega
          · by_cases hge : at' ≤ x0
            · skip
              have hbf : before ⟨true, at'⟩ ⟨x0, x1, x2, x3, x4⟩ = false := by rw [before_no]; exact .inl ⟨rfl, hge⟩
              have hgeb : decide (x0 ≥ at') = true := decide_eq_true hge
              have HBF := Lib.hid hbf; clear hbf
              go_wp2_with (rw [hwp.out]; (try rw [hjp.out]))
              obtain ⟨q0p, q1p, p0, p1⟩ := HQP.out
              refine wp_region_held_drew (S := fun v => v.cell? ⟨b, off, none⟩ = some (.bool true) ∧ v.cell? ⟨b, off + 1, none⟩ = some (.int .i64 at') ∧ v.cell? ⟨jp, 0, none⟩ = some (.int .i64 x0) ∧ v.cell? ⟨jp, 1, none⟩ = some (.int .i64 x1)) (by kernel_rfl) ⟨keep_drew q0p, keep_drew q1p, keep_drew p0, keep_drew p1⟩ (fun hHeld => ?_)
              clear q0p q1p p0 p1
              (refine take_yes (i := 0) (d := some 61) (v := ?_) rfl rfl (by kernel_rfl) (by kernel_rfl) (by kernel_rfl) (by rfl) (fun _ _ _ h => h) ?_ (by assumption) ?_; rotate_left; focus ((intro w' hSw; (try dsimp only at hSw); go_simp) <;> with_reducible rfl)); (try simp only [Act.put, List.setIfInBounds_toArray, List.set_cons_zero, List.set_cons_succ])
              (refine take_yes (i := 1) (d := some 62) (v := ?_) rfl rfl (by kernel_rfl) (by kernel_rfl) (by kernel_rfl) (by rfl) (fun _ _ _ h => h) ?_ (by assumption) ?_; rotate_left; focus ((intro w' hSw; (try dsimp only at hSw); go_simp) <;> with_reducible rfl)); (try simp only [Act.put, List.setIfInBounds_toArray, List.set_cons_zero, List.set_cons_succ])
              (refine take_yes (i := 2) (d := some 63) (v := ?_) rfl rfl (by kernel_rfl) (by kernel_rfl) (by kernel_rfl) (by rfl) (fun _ _ _ h => h) ?_ (by assumption) ?_; rotate_left; focus ((intro w' hSw; (try dsimp only at hSw); go_simp) <;> with_reducible rfl)); (try simp only [Act.put, List.setIfInBounds_toArray, List.set_cons_zero, List.set_cons_succ])
              (refine take_yes (i := 3) (d := some 64) (v := ?_) rfl rfl (by kernel_rfl) (by kernel_rfl) (by kernel_rfl) (by rfl) (fun _ _ _ h => h) ?_ (by assumption) ?_; rotate_left; focus ((intro w' hSw; (try dsimp only at hSw); go_simp) <;> with_reducible rfl)); (try simp only [Act.put, List.setIfInBounds_toArray, List.set_cons_zero, List.set_cons_succ])
              (refine take_yes (i := 4) (d := some 65) (v := ?_) rfl rfl (by kernel_rfl) (by kernel_rfl) (by kernel_rfl) (by rfl) (fun _ _ _ h => h) ?_ (by assumption) ?_; rotate_left; focus ((intro w' hSw; (try dsimp only at hSw); go_simp) <;> with_reducible rfl)); (try simp only [Act.put, List.setIfInBounds_toArray, List.set_cons_zero, List.set_cons_succ])
              (refine take_yes (i := 5) (d := some 66) (v := ?_) rfl rfl (by kernel_rfl) (by kernel_rfl) (by kernel_rfl) (by rfl) (fun _ _ _ h => h) ?_ (by assumption) ?_; rotate_left; focus ((intro w' hSw; (try dsimp only at hSw); go_simp) <;> with_reducible rfl)); (try simp only [Act.put, List.setIfInBounds_toArray, List.set_cons_zero, List.set_cons_succ])
              (refine take_yes (i := 6) (d := some 67) (v := ?_) rfl rfl (by kernel_rfl) (by kernel_rfl) (by kernel_rfl) (by rfl) (fun _ _ _ h => h) ?_ (by assumption) ?_; rotate_left; focus ((intro w' hSw; (try dsimp only at hSw); go_simp) <;> with_reducible rfl)); (try simp only [Act.put, List.setIfInBounds_toArray, List.set_cons_zero, List.set_cons_succ])
              (refine take_yes (i := 7) (d := some 68) (v := ?_) rfl rfl (by kernel_rfl) (by kernel_rfl) (by kernel_rfl) (by rfl) (fun _ _ _ h => h) ?_ (by assumption) ?_; rotate_left; focus ((intro w' hSw; (try dsimp only at hSw); go_simp) <;> with_reducible rfl)); (try simp only [Act.put, List.setIfInBounds_toArray, List.set_cons_zero, List.set_cons_succ])
              (refine take_yes (i := 8) (d := some 69) (v := ?_) rfl rfl (by kernel_rfl) (by kernel_rfl) (by kernel_rfl) (by rfl) (fun _ _ _ h => h) ?_ (by assumption) ?_; rotate_left; focus ((intro w' hSw; (try dsimp only at hSw); go_simp) <;> with_reducible rfl)); (try simp only [Act.put, List.setIfInBounds_toArray, List.set_cons_zero, List.set_cons_succ])
              (refine take_yes (i := 9) (d := some 70) (v := ?_) rfl rfl (by kernel_rfl) (by kernel_rfl) (by kernel_rfl) (by rfl) (fun _ _ _ h => h) ?_ (by assumption) ?_; rotate_left; focus ((intro w' hSw; (try dsimp only at hSw); go_simp) <;> with_reducible rfl)); (try simp only [Act.put, List.setIfInBounds_toArray, List.set_cons_zero, List.set_cons_succ])
              (refine take_yes (i := 10) (d := some 71) (v := ?_) rfl rfl (by kernel_rfl) (by kernel_rfl) (by kernel_rfl) (by rfl) (fun _ _ _ h => h) ?_ (by assumption) ?_; rotate_left; focus ((intro w' hSw; (try dsimp only at hSw); go_simp) <;> with_reducible rfl)); (try simp only [Act.put, List.setIfInBounds_toArray, List.set_cons_zero, List.set_cons_succ])
              (refine take_yes (i := 11) (d := some 72) (v := ?_) rfl rfl (by kernel_rfl) (by kernel_rfl) (by kernel_rfl) (by rfl) (fun _ _ _ h => h) ?_ (by assumption) ?_; rotate_left; focus ((intro w' hSw; (try dsimp only at hSw); go_simp) <;> with_reducible rfl)); (try simp only [Act.put, List.setIfInBounds_toArray, List.set_cons_zero, List.set_cons_succ])
              (refine take_yes (i := 12) (d := some 73) (v := ?_) rfl rfl (by kernel_rfl) (by kernel_rfl) (by kernel_rfl) (by rfl) (fun _ _ _ h => h) ?_ (by assumption) ?_; rotate_left; focus ((intro w' hSw; (try dsimp only at hSw); go_simp) <;> with_reducible rfl)); (try simp only [Act.put, List.setIfInBounds_toArray, List.set_cons_zero, List.set_cons_succ])
              (refine take_yes (i := 13) (d := some 74) (v := ?_) rfl rfl (by kernel_rfl) (by kernel_rfl) (by kernel_rfl) (by rfl) (fun _ _ _ h => h) ?_ (by assumption) ?_; rotate_left; focus ((intro w' hSw; (try dsimp only at hSw); go_simp) <;> with_reducible rfl)); (try simp only [Act.put, List.setIfInBounds_toArray, List.set_cons_zero, List.set_cons_succ])
              refine take_no (i := 14) (d := some 75) rfl rfl (by kernel_rfl) (by kernel_rfl) (by kernel_rfl) (by rfl) (fun _ _ _ h => h) (by assumption) ?_; (try simp only [Act.put, List.setIfInBounds_toArray, List.set_cons_zero, List.set_cons_succ])
              refine take_no (i := 15) (d := some 76) rfl rfl (by kernel_rfl) (by kernel_rfl) (by kernel_rfl) (by rfl) (fun _ _ _ h => h) (by assumption) ?_; (try simp only [Act.put, List.setIfInBounds_toArray, List.set_cons_zero, List.set_cons_succ])
              refine take_no (i := 16) (d := some 77) rfl rfl (by kernel_rfl) (by kernel_rfl) (by kernel_rfl) (by rfl) (fun _ _ _ h => h) (by assumption) ?_; (try simp only [Act.put, List.setIfInBounds_toArray, List.set_cons_zero, List.set_cons_succ])
              refine take_no (i := 17) (d := some 78) rfl rfl (by kernel_rfl) (by kernel_rfl) (by kernel_rfl) (by rfl) (fun _ _ _ h => h) (by assumption) ?_; (try simp only [Act.put, List.setIfInBounds_toArray, List.set_cons_zero, List.set_cons_succ])
              refine take_no (i := 18) (d := some 79) rfl rfl (by kernel_rfl) (by kernel_rfl) (by kernel_rfl) (by rfl) (fun _ _ _ h => h) (by assumption) ?_; (try simp only [Act.put, List.setIfInBounds_toArray, List.set_cons_zero, List.set_cons_succ])
              refine take_no (i := 19) (d := some 80) rfl rfl (by kernel_rfl) (by kernel_rfl) (by kernel_rfl) (by rfl) (fun _ _ _ h => h) (by assumption) ?_; (try simp only [Act.put, List.setIfInBounds_toArray, List.set_cons_zero, List.set_cons_succ])
              refine take_no (i := 20) (d := some 81) rfl rfl (by kernel_rfl) (by kernel_rfl) (by kernel_rfl) (by rfl) (fun _ _ _ h => h) (by assumption) ?_; (try simp only [Act.put, List.setIfInBounds_toArray, List.set_cons_zero, List.set_cons_succ])
              refine take_no (i := 21) (d := some 82) rfl rfl (by kernel_rfl) (by kernel_rfl) (by kernel_rfl) (by rfl) (fun _ _ _ h => h) (by assumption) ?_; (try simp only [Act.put, List.setIfInBounds_toArray, List.set_cons_zero, List.set_cons_succ])
              refine take_no (i := 22) (d := some 83) rfl rfl (by kernel_rfl) (by kernel_rfl) (by kernel_rfl) (by rfl) (fun _ _ _ h => h) (by assumption) ?_; (try simp only [Act.put, List.setIfInBounds_toArray, List.set_cons_zero, List.set_cons_succ])
              refine take_no (i := 23) (d := some 84) rfl rfl (by kernel_rfl) (by kernel_rfl) (by kernel_rfl) (by rfl) (fun _ _ _ h => h) (by assumption) ?_; (try simp only [Act.put, List.setIfInBounds_toArray, List.set_cons_zero, List.set_cons_succ])
              refine take_no (i := 24) (d := some 85) rfl rfl (by kernel_rfl) (by kernel_rfl) (by kernel_rfl) (by rfl) (fun _ _ _ h => h) (by assumption) ?_; (try simp only [Act.put, List.setIfInBounds_toArray, List.set_cons_zero, List.set_cons_succ])
              refine take_no (i := 25) (d := some 86) rfl rfl (by kernel_rfl) (by kernel_rfl) (by kernel_rfl) (by rfl) (fun _ _ _ h => h) (by assumption) ?_; (try simp only [Act.put, List.setIfInBounds_toArray, List.set_cons_zero, List.set_cons_succ])
              refine take_no (i := 26) (d := some 87) rfl rfl (by kernel_rfl) (by kernel_rfl) (by kernel_rfl) (by rfl) (fun _ _ _ h => h) (by assumption) ?_; (try simp only [Act.put, List.setIfInBounds_toArray, List.set_cons_zero, List.set_cons_succ])
              refine take_no (i := 27) (d := some 88) rfl rfl (by kernel_rfl) (by kernel_rfl) (by kernel_rfl) (by rfl) (fun _ _ _ h => h) (by assumption) ?_; (try simp only [Act.put, List.setIfInBounds_toArray, List.set_cons_zero, List.set_cons_succ])
              (refine take_yes (i := 28) (d := some 89) (v := ?_) rfl rfl (by kernel_rfl) (by kernel_rfl) (by kernel_rfl) (by rfl) (fun _ _ _ h => h) ?_ (by assumption) ?_; rotate_left; focus ((intro w' hSw; (try dsimp only at hSw); go_simp) <;> with_reducible rfl)); (try simp only [Act.put, List.setIfInBounds_toArray, List.set_cons_zero, List.set_cons_succ])
              refine wpAnyH_done (by kernel_rfl) ?_ _
              clear hHeld
              obtain ⟨hacAp, hacBp⟩ := HACP.out
              have hacAd : Acc (World.drew wp) z1 3 1 va (numsOf ⟨true, at'⟩ ps true nums k) intC := hacAp
              have hacBd : Acc (World.drew wp) z1 3 1 vd (numsOf ⟨true, at'⟩ ps false nums k) intC := hacBp
              have hBd : Below wc.heap.size wc (World.drew wp) := HBP.out.drew
              have hzd : z1 ≤ (World.drew wp).heap.size := hzp
              have gyd : (World.drew wp).cell? ⟨bn, on + k, none⟩ = some (.int .i64 y) := HGY.out
              obtain ⟨wq, hwq⟩ : ∃ v, Hid (World.drew wp = v) := ⟨_, rfl⟩
              rw [hwq.out] at hacAd hacBd hBd hzd gyd ⊢
              clear hacAp hacBp
              go_wp2_with (at_builtin; refine wpList_acc1 rfl _ _ 42 rfl z1 3 (.int .i64 0) 1 8 Try.underlying42 infoIntA rfl (by omega) _ _ intC y rfl hacBd _ _ rfl _ rfl (by simp) rfl (by simp [intC, Value.oneCell']) hlnB (by omega) hzd ?_; intro v7 w7 hacc7 hgrow7 hat7)
              go_roundw
              case rel =>
                rw [numsOf_yes HX.out HY.out HBF.out] at hacc7
                have hoth := hacAd.kept hgrow7 (fun g hg => hdis g hg)
                rw [numsOf_no (nums := nums) HX.out (by rw [HBF.out]; rfl)] at hoth
                have hrow : ∀ g, va.ownBlock = some g → g < wq.heap.size + 1 := fun g hg => by have := (hacAd.row hg).2; omega
                have hd7 := hdis.right hat7 hrow
                have hB7 := hacBd.grow_below hBd hgrow7 (Nat.le_of_eq hz1.out) hBd.size
                exact ⟨k + 1, _, _, by omega, by go_num, rfl, rfl, hoth, hacc7, hd7, hB7⟩
              case measure => simp [intOf]; omega
            · skip
              have hge2 : x0 < at' := by omega
              have hbf : before ⟨true, at'⟩ ⟨x0, x1, x2, x3, x4⟩ = true := by rw [before_iff]; exact .inl ⟨rfl, hge2⟩
              have hgeb : decide (x0 ≥ at') = false := decide_eq_false hge
              have HBF := Lib.hid hbf; clear hbf
              go_wp2_with (rw [hwp.out]; (try rw [hjp.out]))
              obtain ⟨q0p, q1p, p0, p1⟩ := HQP.out
              refine wp_region_held_drew (S := fun v => v.cell? ⟨b, off, none⟩ = some (.bool true) ∧ v.cell? ⟨b, off + 1, none⟩ = some (.int .i64 at') ∧ v.cell? ⟨jp, 0, none⟩ = some (.int .i64 x0) ∧ v.cell? ⟨jp, 1, none⟩ = some (.int .i64 x1)) (by kernel_rfl) ⟨keep_drew q0p, keep_drew q1p, keep_drew p0, keep_drew p1⟩ (fun hHeld => ?_)
              clear q0p q1p p0 p1
              (refine take_yes (i := 0) (d := some 61) (v := ?_) rfl rfl (by kernel_rfl) (by kernel_rfl) (by kernel_rfl) (by rfl) (fun _ _ _ h => h) ?_ (by assumption) ?_; rotate_left; focus ((intro w' hSw; (try dsimp only at hSw); go_simp) <;> with_reducible rfl)); (try simp only [Act.put, List.setIfInBounds_toArray, List.set_cons_zero, List.set_cons_succ])
              (refine take_yes (i := 1) (d := some 62) (v := ?_) rfl rfl (by kernel_rfl) (by kernel_rfl) (by kernel_rfl) (by rfl) (fun _ _ _ h => h) ?_ (by assumption) ?_; rotate_left; focus ((intro w' hSw; (try dsimp only at hSw); go_simp) <;> with_reducible rfl)); (try simp only [Act.put, List.setIfInBounds_toArray, List.set_cons_zero, List.set_cons_succ])
              (refine take_yes (i := 2) (d := some 63) (v := ?_) rfl rfl (by kernel_rfl) (by kernel_rfl) (by kernel_rfl) (by rfl) (fun _ _ _ h => h) ?_ (by assumption) ?_; rotate_left; focus ((intro w' hSw; (try dsimp only at hSw); go_simp) <;> with_reducible rfl)); (try simp only [Act.put, List.setIfInBounds_toArray, List.set_cons_zero, List.set_cons_succ])
              (refine take_yes (i := 3) (d := some 64) (v := ?_) rfl rfl (by kernel_rfl) (by kernel_rfl) (by kernel_rfl) (by rfl) (fun _ _ _ h => h) ?_ (by assumption) ?_; rotate_left; focus ((intro w' hSw; (try dsimp only at hSw); go_simp) <;> with_reducible rfl)); (try simp only [Act.put, List.setIfInBounds_toArray, List.set_cons_zero, List.set_cons_succ])
              (refine take_yes (i := 4) (d := some 65) (v := ?_) rfl rfl (by kernel_rfl) (by kernel_rfl) (by kernel_rfl) (by rfl) (fun _ _ _ h => h) ?_ (by assumption) ?_; rotate_left; focus ((intro w' hSw; (try dsimp only at hSw); go_simp) <;> with_reducible rfl)); (try simp only [Act.put, List.setIfInBounds_toArray, List.set_cons_zero, List.set_cons_succ])
              (refine take_yes (i := 5) (d := some 66) (v := ?_) rfl rfl (by kernel_rfl) (by kernel_rfl) (by kernel_rfl) (by rfl) (fun _ _ _ h => h) ?_ (by assumption) ?_; rotate_left; focus ((intro w' hSw; (try dsimp only at hSw); go_simp) <;> with_reducible rfl)); (try simp only [Act.put, List.setIfInBounds_toArray, List.set_cons_zero, List.set_cons_succ])
              (refine take_yes (i := 6) (d := some 67) (v := ?_) rfl rfl (by kernel_rfl) (by kernel_rfl) (by kernel_rfl) (by rfl) (fun _ _ _ h => h) ?_ (by assumption) ?_; rotate_left; focus ((intro w' hSw; (try dsimp only at hSw); go_simp) <;> with_reducible rfl)); (try simp only [Act.put, List.setIfInBounds_toArray, List.set_cons_zero, List.set_cons_succ])
              (refine take_yes (i := 7) (d := some 68) (v := ?_) rfl rfl (by kernel_rfl) (by kernel_rfl) (by kernel_rfl) (by rfl) (fun _ _ _ h => h) ?_ (by assumption) ?_; rotate_left; focus ((intro w' hSw; (try dsimp only at hSw); go_simp) <;> with_reducible rfl)); (try simp only [Act.put, List.setIfInBounds_toArray, List.set_cons_zero, List.set_cons_succ])
              (refine take_yes (i := 8) (d := some 69) (v := ?_) rfl rfl (by kernel_rfl) (by kernel_rfl) (by kernel_rfl) (by rfl) (fun _ _ _ h => h) ?_ (by assumption) ?_; rotate_left; focus ((intro w' hSw; (try dsimp only at hSw); go_simp) <;> with_reducible rfl)); (try simp only [Act.put, List.setIfInBounds_toArray, List.set_cons_zero, List.set_cons_succ])
              (refine take_yes (i := 9) (d := some 70) (v := ?_) rfl rfl (by kernel_rfl) (by kernel_rfl) (by kernel_rfl) (by rfl) (fun _ _ _ h => h) ?_ (by assumption) ?_; rotate_left; focus ((intro w' hSw; (try dsimp only at hSw); go_simp) <;> with_reducible rfl)); (try simp only [Act.put, List.setIfInBounds_toArray, List.set_cons_zero, List.set_cons_succ])
              (refine take_yes (i := 10) (d := some 71) (v := ?_) rfl rfl (by kernel_rfl) (by kernel_rfl) (by kernel_rfl) (by rfl) (fun _ _ _ h => h) ?_ (by assumption) ?_; rotate_left; focus ((intro w' hSw; (try dsimp only at hSw); go_simp) <;> with_reducible rfl)); (try simp only [Act.put, List.setIfInBounds_toArray, List.set_cons_zero, List.set_cons_succ])
              (refine take_yes (i := 11) (d := some 72) (v := ?_) rfl rfl (by kernel_rfl) (by kernel_rfl) (by kernel_rfl) (by rfl) (fun _ _ _ h => h) ?_ (by assumption) ?_; rotate_left; focus ((intro w' hSw; (try dsimp only at hSw); go_simp) <;> with_reducible rfl)); (try simp only [Act.put, List.setIfInBounds_toArray, List.set_cons_zero, List.set_cons_succ])
              (refine take_yes (i := 12) (d := some 73) (v := ?_) rfl rfl (by kernel_rfl) (by kernel_rfl) (by kernel_rfl) (by rfl) (fun _ _ _ h => h) ?_ (by assumption) ?_; rotate_left; focus ((intro w' hSw; (try dsimp only at hSw); go_simp) <;> with_reducible rfl)); (try simp only [Act.put, List.setIfInBounds_toArray, List.set_cons_zero, List.set_cons_succ])
              (refine take_yes (i := 13) (d := some 74) (v := ?_) rfl rfl (by kernel_rfl) (by kernel_rfl) (by kernel_rfl) (by rfl) (fun _ _ _ h => h) ?_ (by assumption) ?_; rotate_left; focus ((intro w' hSw; (try dsimp only at hSw); go_simp) <;> with_reducible rfl)); (try simp only [Act.put, List.setIfInBounds_toArray, List.set_cons_zero, List.set_cons_succ])
              (refine take_yes (i := 14) (d := some 75) (v := ?_) rfl rfl (by kernel_rfl) (by kernel_rfl) (by kernel_rfl) (by rfl) (fun _ _ _ h => h) ?_ (by assumption) ?_; rotate_left; focus ((intro w' hSw; (try dsimp only at hSw); go_simp) <;> with_reducible rfl)); (try simp only [Act.put, List.setIfInBounds_toArray, List.set_cons_zero, List.set_cons_succ])
              (refine take_yes (i := 15) (d := some 76) (v := ?_) rfl rfl (by kernel_rfl) (by kernel_rfl) (by kernel_rfl) (by rfl) (fun _ _ _ h => h) ?_ (by assumption) ?_; rotate_left; focus ((intro w' hSw; (try dsimp only at hSw); go_simp) <;> with_reducible rfl)); (try simp only [Act.put, List.setIfInBounds_toArray, List.set_cons_zero, List.set_cons_succ])
              (refine take_yes (i := 16) (d := some 77) (v := ?_) rfl rfl (by kernel_rfl) (by kernel_rfl) (by kernel_rfl) (by rfl) (fun _ _ _ h => h) ?_ (by assumption) ?_; rotate_left; focus ((intro w' hSw; (try dsimp only at hSw); go_simp) <;> with_reducible rfl)); (try simp only [Act.put, List.setIfInBounds_toArray, List.set_cons_zero, List.set_cons_succ])
              (refine take_yes (i := 17) (d := some 78) (v := ?_) rfl rfl (by kernel_rfl) (by kernel_rfl) (by kernel_rfl) (by rfl) (fun _ _ _ h => h) ?_ (by assumption) ?_; rotate_left; focus ((intro w' hSw; (try dsimp only at hSw); go_simp) <;> with_reducible rfl)); (try simp only [Act.put, List.setIfInBounds_toArray, List.set_cons_zero, List.set_cons_succ])
              (refine take_yes (i := 18) (d := some 79) (v := ?_) rfl rfl (by kernel_rfl) (by kernel_rfl) (by kernel_rfl) (by rfl) (fun _ _ _ h => h) ?_ (by assumption) ?_; rotate_left; focus ((intro w' hSw; (try dsimp only at hSw); go_simp) <;> with_reducible rfl)); (try simp only [Act.put, List.setIfInBounds_toArray, List.set_cons_zero, List.set_cons_succ])
              (refine take_yes (i := 19) (d := some 80) (v := ?_) rfl rfl (by kernel_rfl) (by kernel_rfl) (by kernel_rfl) (by rfl) (fun _ _ _ h => h) ?_ (by assumption) ?_; rotate_left; focus ((intro w' hSw; (try dsimp only at hSw); go_simp) <;> with_reducible rfl)); (try simp only [Act.put, List.setIfInBounds_toArray, List.set_cons_zero, List.set_cons_succ])
              refine take_no (i := 20) (d := some 81) rfl rfl (by kernel_rfl) (by kernel_rfl) (by kernel_rfl) (by rfl) (fun _ _ _ h => h) (by assumption) ?_; (try simp only [Act.put, List.setIfInBounds_toArray, List.set_cons_zero, List.set_cons_succ])
              refine take_no (i := 21) (d := some 82) rfl rfl (by kernel_rfl) (by kernel_rfl) (by kernel_rfl) (by rfl) (fun _ _ _ h => h) (by assumption) ?_; (try simp only [Act.put, List.setIfInBounds_toArray, List.set_cons_zero, List.set_cons_succ])
              refine take_no (i := 22) (d := some 83) rfl rfl (by kernel_rfl) (by kernel_rfl) (by kernel_rfl) (by rfl) (fun _ _ _ h => h) (by assumption) ?_; (try simp only [Act.put, List.setIfInBounds_toArray, List.set_cons_zero, List.set_cons_succ])
              refine take_no (i := 23) (d := some 84) rfl rfl (by kernel_rfl) (by kernel_rfl) (by kernel_rfl) (by rfl) (fun _ _ _ h => h) (by assumption) ?_; (try simp only [Act.put, List.setIfInBounds_toArray, List.set_cons_zero, List.set_cons_succ])
              refine take_no (i := 24) (d := some 85) rfl rfl (by kernel_rfl) (by kernel_rfl) (by kernel_rfl) (by rfl) (fun _ _ _ h => h) (by assumption) ?_; (try simp only [Act.put, List.setIfInBounds_toArray, List.set_cons_zero, List.set_cons_succ])
              refine take_no (i := 25) (d := some 86) rfl rfl (by kernel_rfl) (by kernel_rfl) (by kernel_rfl) (by rfl) (fun _ _ _ h => h) (by assumption) ?_; (try simp only [Act.put, List.setIfInBounds_toArray, List.set_cons_zero, List.set_cons_succ])
              refine take_no (i := 26) (d := some 87) rfl rfl (by kernel_rfl) (by kernel_rfl) (by kernel_rfl) (by rfl) (fun _ _ _ h => h) (by assumption) ?_; (try simp only [Act.put, List.setIfInBounds_toArray, List.set_cons_zero, List.set_cons_succ])
              (refine take_yes (i := 27) (d := some 88) (v := ?_) rfl rfl (by kernel_rfl) (by kernel_rfl) (by kernel_rfl) (by rfl) (fun _ _ _ h => h) ?_ (by assumption) ?_; rotate_left; focus ((intro w' hSw; (try dsimp only at hSw); go_simp) <;> with_reducible rfl)); (try simp only [Act.put, List.setIfInBounds_toArray, List.set_cons_zero, List.set_cons_succ])
              (refine take_yes (i := 28) (d := some 89) (v := ?_) rfl rfl (by kernel_rfl) (by kernel_rfl) (by kernel_rfl) (by rfl) (fun _ _ _ h => h) ?_ (by assumption) ?_; rotate_left; focus ((intro w' hSw; (try dsimp only at hSw); go_simp) <;> with_reducible rfl)); (try simp only [Act.put, List.setIfInBounds_toArray, List.set_cons_zero, List.set_cons_succ])
              refine wpAnyH_done (by kernel_rfl) ?_ _
              clear hHeld
              obtain ⟨hacAp, hacBp⟩ := HACP.out
              have hacAd : Acc (World.drew wp) z1 3 1 va (numsOf ⟨true, at'⟩ ps true nums k) intC := hacAp
              have hacBd : Acc (World.drew wp) z1 3 1 vd (numsOf ⟨true, at'⟩ ps false nums k) intC := hacBp
              have hBd : Below wc.heap.size wc (World.drew wp) := HBP.out.drew
              have hzd : z1 ≤ (World.drew wp).heap.size := hzp
              have gyd : (World.drew wp).cell? ⟨bn, on + k, none⟩ = some (.int .i64 y) := HGY.out
              obtain ⟨wq, hwq⟩ : ∃ v, Hid (World.drew wp = v) := ⟨_, rfl⟩
              rw [hwq.out] at hacAd hacBd hBd hzd gyd ⊢
              clear hacAp hacBp
              go_wp2_with (at_builtin; refine wpList_acc1 rfl _ _ 42 rfl z1 3 (.int .i64 0) 1 8 Try.underlying42 infoIntA rfl (by omega) _ _ intC y rfl hacAd _ _ rfl _ rfl (by simp) rfl (by simp [intC, Value.oneCell']) hlnA (by omega) hzd ?_; intro v7 w7 hacc7 hgrow7 hat7)
              go_roundw
              case rel =>
                rw [numsOf_yes HX.out HY.out HBF.out] at hacc7
                have hoth := hacBd.kept hgrow7 (fun g hg => hdis.symm g hg)
                rw [numsOf_no (nums := nums) HX.out (by rw [HBF.out]; rfl)] at hoth
                have hrow : ∀ g, vd.ownBlock = some g → g < wq.heap.size + 1 := fun g hg => by have := (hacBd.row hg).2; omega
                have hd7 := hdis.left hat7 hrow
                have hB7 := hacAd.grow_below hBd hgrow7 (Nat.le_of_eq hz1.out) hBd.size
                exact ⟨k + 1, _, _, by omega, by go_num, rfl, rfl, hacc7, hoth, hd7, hB7⟩
              case measure => simp [intOf]; omega
        · obtain rfl : n = k := by omega
          clear e0 e1
          have hBr := hB; clear hB
          obtain ⟨ya0, ya1, ya2⟩ := HYA.out; obtain ⟨yd0, yd1, yd2⟩ := HYD.out
          replace ya0 := keepcell ya0 hBr
          replace ya1 := keepcell ya1 hBr
          replace ya2 := keepcell ya2 hBr
          replace yd0 := keepcell yd0 hBr
          replace yd1 := keepcell yd1 hBr
          replace yd2 := keepcell yd2 hBr
          have hPA := HPA.out.below hBr; have hPB := HPB.out.below hBr
          have hBWr := hBW.trans (hBr.mono hBW.size)
          obtain ⟨NA1, d1, rfl, hd1, hOA⟩ := hacA.own (fun _ => rfl); obtain ⟨NA2, d2, rfl, hd2, hOB⟩ := hacB.own (fun _ => rfl)
          have hNA := hOA.rd; have hNB := hOB.rd
          have hlA : (numsOf ⟨up, at'⟩ ps true nums n).length = n1 := by rw [← HLEN.out]; exact HNL.out.1.trans HN12.out.1
          have hlB : (numsOf ⟨up, at'⟩ ps false nums n).length = n2 := by rw [← HLEN.out]; exact HNL.out.2.trans HN12.out.2
          rw [hlA] at hNA; rw [hlB] at hNB; rw [hlA, hlB]
          clear hOA hOB hd1 hd2 hacA hacB hdis hlA hlB hz hzw hBW
          have HOA := Lib.hid HPO.out.1; have HOB := Lib.hid HPO.out.2.1
          obtain ⟨NLA, hNLA⟩ : ∃ l, Hid (numsOf ⟨up, at'⟩ ps true nums n = l) := ⟨_, rfl⟩; obtain ⟨NLB, hNLB⟩ : ∃ l, Hid (numsOf ⟨up, at'⟩ ps false nums n = l) := ⟨_, rfl⟩
          rw [hNLA.out] at hNA; rw [hNLB.out] at hNB
          go_wp2_with fail
          refine (ih _ _ _ _ _ (partA ⟨up, at'⟩ ps) _ _ NLA next _ hsA HOA.out hPA hNA hx0 (by omega)).mono ?_
          rintro e w4 ⟨J1, p1, c1, rfl, hc1, hO1, hb4⟩
          have hp1 : p1 + 1 ≤ n1 := by have h1 := joinsL_len ⟨wA w ⟨up, at'⟩, hA h ⟨up, at'⟩, partA ⟨up, at'⟩ ps⟩ NLA next (by have := HPO.out.2.2.1; omega); have h2 := hO1.len; have h3 := HN12.out.1; have h4 : (partA ⟨up, at'⟩ ps).length = n1 := h3; simp only at h1; omega
          obtain ⟨X, hX⟩ : ∃ x, Hid (joinsL ⟨wA w ⟨up, at'⟩, hA h ⟨up, at'⟩, partA ⟨up, at'⟩ ps⟩ NLA next = x) := ⟨_, rfl⟩
          obtain ⟨kA, hkA⟩ : ∃ x, Hid (canSew ⟨wA w ⟨up, at'⟩, hA h ⟨up, at'⟩, partA ⟨up, at'⟩ ps⟩ = x) := ⟨_, rfl⟩
          rw [hX.out] at hO1 ⊢; rw [hkA.out]
          replace yd0 := keepcell yd0 hb4
          replace yd1 := keepcell yd1 hb4
          replace yd2 := keepcell yd2 hb4
          replace q0 := keepcell q0 hb4
          replace q1 := keepcell q1 hb4
          replace hPB := hPB.below hb4; replace hNB := hNB.below hb4
          have hRX := hO1.rd
          replace hBWr := hBWr.trans (hb4.mono hBWr.size)
          clear e2 hb4 hO1 hPA hNA ya0 ya1 ya2 hRx hNx
          have hwp : IntKind.i64.wrap (next + (p1 : Int)) = next + (p1 : Int) := by rw [IntKind.wrap_i64]; omega
          go_wp2_with fail
          refine (ih _ _ _ _ _ (partB ⟨up, at'⟩ ps) _ _ NLB (next + (p1 : Int)) _ hsB HOB.out hPB hNB (by omega) (by omega)).mono ?_
          rintro e w5 ⟨J2, p2, c2, rfl, hc2, hO2, hb5⟩
          have hp2 : p2 + 1 ≤ n2 := by have h1 := joinsL_len ⟨wB w ⟨up, at'⟩, hB h ⟨up, at'⟩, partB ⟨up, at'⟩ ps⟩ NLB (next + (p1 : Int)) (by have := HPO.out.2.2.2; omega); have h2 := hO2.len; have h3 := HN12.out.2; have h4 : (partB ⟨up, at'⟩ ps).length = n2 := h3; simp only at h1; omega
          obtain ⟨Y, hY⟩ : ∃ x, Hid (joinsL ⟨wB w ⟨up, at'⟩, hB h ⟨up, at'⟩, partB ⟨up, at'⟩ ps⟩ NLB (next + (p1 : Int)) = x) := ⟨_, rfl⟩
          obtain ⟨kB, hkB⟩ : ∃ x, Hid (canSew ⟨wB w ⟨up, at'⟩, hB h ⟨up, at'⟩, partB ⟨up, at'⟩ ps⟩ = x) := ⟨_, rfl⟩
          rw [hY.out] at hO2 ⊢; rw [hkB.out]
          replace q0 := keepcell q0 hb5
          replace q1 := keepcell q1 hb5
          replace hRX := hRX.below hb5
          have hRY := hO2.rd
          replace hBWr := hBWr.trans (hb5.mono hBWr.size)
          have hs5 := hBWr.size
          clear hb5 hO2 hPB hNB yd0 yd1 yd2 hwp
          have HCC := HC.out
          have hcc : canSew ⟨w, h, ps⟩ = (kA && kB) := by rw [← HCC, ← hkA.out, ← hkB.out]; rfl
          have HCAN := Lib.hid hcc; clear hcc HCC
          by_cases hboth : (kA && kB) = true
          · have hkA1 : kA = true := by revert hboth; cases kA <;> simp
            have hkB1 : kB = true := by revert hboth; cases kB <;> simp
            have hlX := hRX.len; have hlY := hRY.len
            have HJ0 := Lib.hid (HJC.out (by show canSew ⟨wA w ⟨up, at'⟩, hA h ⟨up, at'⟩, partA ⟨up, at'⟩ ps⟩ = true; rw [hkA.out]; exact hkA1) (by show canSew ⟨wB w ⟨up, at'⟩, hB h ⟨up, at'⟩, partB ⟨up, at'⟩ ps⟩ = true; rw [hkB.out]; exact hkB1) X Y (by show joinsL ⟨wA w ⟨up, at'⟩, hA h ⟨up, at'⟩, partA ⟨up, at'⟩ ps⟩ (numsOf ⟨up, at'⟩ ps true nums ps.length) next = X; rw [HLEN.out, hNLA.out]; exact hX.out) (by show joinsL ⟨wB w ⟨up, at'⟩, hB h ⟨up, at'⟩, partB ⟨up, at'⟩ ps⟩ (numsOf ⟨up, at'⟩ ps false nums ps.length) (next + (X.1.length : Int)) = Y; rw [HLEN.out, hNLB.out, hlX]; exact hY.out))
            have HCAN1 := Lib.hid (HCAN.out.trans hboth); clear hboth
            subst hkA1; subst hkB1
            obtain ⟨w6, hw6⟩ : ∃ v, Hid (w5.alloc (.cells #[] 76) = v) := ⟨_, rfl⟩
            obtain ⟨z5, hz5⟩ : ∃ j, Hid (w5.heap.size = j) := ⟨_, rfl⟩
            have hac0 : Acc w6 z5 76 3 (.slice (some ⟨z5, 0, none⟩) 0 0) ([] : List Join) joinC := by rw [← hw6.out]; exact Acc.lit0 w5 z5 _ 3 joinC (Nat.le_of_eq hz5.out.symm) hz5.out.symm
            have b6 : Below w5.heap.size w5 w6 := by rw [← hw6.out]; exact (Below.refl _ _).alloc (Nat.le_refl _) _
            have hz6 : z5 ≤ w6.heap.size := by have := b6.size; have := hz5.out; omega
            have hzW : W.heap.size ≤ z5 := by have := hz5.out; omega
            have hz5e : w5.heap.size ≤ z5 := Nat.le_of_eq hz5.out
            have HP12 := Lib.hid (And.intro hp1 (And.intro hp2 hsum))
            go_wp2_with (first | (rw [hw6.out]; (try rw [hz5.out])) | (rw [hz5.out]) | (at_builtin; refine wpList_accsG rfl _ _ 49 rfl z5 76 (.agg #[.bool false, .int .i64 0, .int .i64 0]) 3 24 Try.underlying49 infoJoin rfl (by omega) _ [] X.1 joinC joinC_len joinC_one rfl hac0 J1 p1 c1 rfl (hRX.below b6) (by simp; omega) (by omega) hz6 ?_; intro v7 w7 hacc7 hgrow7 hat7; have B7 := hac0.grow_below b6 hgrow7 hz5e b6.size; have hz7 : z5 ≤ w7.heap.size := Nat.le_trans hz6 hgrow7.size; have hRY7 := hRY.below B7) | (at_builtin; refine wpList_accsG rfl _ _ 49 rfl z5 76 (.agg #[.bool false, .int .i64 0, .int .i64 0]) 3 24 Try.underlying49 infoJoin rfl (by omega) _ ([] ++ X.1) Y.1 joinC joinC_len joinC_one rfl hacc7 J2 p2 c2 rfl hRY7 (by simp; omega) (by omega) hz7 ?_; intro v8 w8 hacc8 hgrow8 hat8; have B8 := hacc7.grow_below B7 hgrow8 hz5e B7.size; have hz8 : z5 ≤ w8.heap.size := Nat.le_trans hz7 hgrow8.size; have q08 := keepcell q0 B8) | (at_builtin; refine wpList_acc1 rfl _ _ 49 rfl z5 76 (.agg #[.bool false, .int .i64 0, .int .i64 0]) 3 24 Try.underlying49 infoJoin rfl (by omega) _ ([] ++ X.1 ++ Y.1) joinC ⟨up, X.2, Y.2⟩ rfl hacc8 _ _ rfl _ rfl (by simp) rfl (joinC_one _) (by simp; omega) (by omega) hz8 ?_; intro v9 w9 hacc9 hgrow9 hat9; obtain ⟨J9, c9, rfl, hc9, hO9⟩ := hacc9.own joinC_len; obtain ⟨m9, hm9⟩ : ∃ m, Hid ((([] : List Join) ++ X.1 ++ Y.1 ++ [(⟨up, X.2, Y.2⟩ : Join)]).length = m) := ⟨_, rfl⟩; rw [hm9.out] at hc9 hO9 ⊢; have hm9e : m9 = p1 + p2 + 1 := (by rw [← hm9.out]; simp; omega); have HM9 := Lib.hid hm9e; have hw9 : IntKind.i64.wrap (next + (m9 : Int)) = next + (m9 : Int) := (by rw [IntKind.wrap_i64]; omega); have hw9b : IntKind.i64.wrap (next + (m9 : Int) - 1) = next + (m9 : Int) - 1 := (by rw [IntKind.wrap_i64]; omega); clear hm9e; have B9 := hacc8.grow_below B8 hgrow9 hz5e B8.size))
            have hB9 := hBWr.trans (B9.mono hs5)
            exact bodyPost_ret (v := .tuple #[.slice J9 m9 c9, .int .i64 (next + (m9 : Int) - 1), .bool true]) (by simp [results, Try.results89, go_sem]) rfl (joinsOut_of (by rw [HJ0.out]; simp) (by rw [HJ0.out]; have := HM9.out; simp only; omega) HCAN1.out hc9 (hO9.mono hzW (Nat.le_refl _)) hB9)
          · have HCAN0 := Lib.hid (HCAN.out.trans (Bool.eq_false_iff.2 hboth))
            cases kA
            · go_wp2
              exact bodyPost_ret (v := .tuple #[.slice (some ⟨w5.heap.size, 0, none⟩) 0 0, .int .i64 0, .bool false]) (by simp [results, Try.results89, go_sem]) rfl (joinsOut_no HCAN0.out (hBWr.trans (Below.mono (B := w5.heap.size) (by (repeat (first | exact Below.refl _ _ | assumption | (refine Below.drew ?_) | (refine below_drewN ?_ _) | (refine Below.alloc ?_ (by first | exact Nat.le_refl _ | (simp; done) | (simp; omega) | omega) _) | (refine Below.setCell ?_ (by first | exact Nat.le_refl _ | (simp; done) | (simp; omega) | omega) _) | (refine Below.trans ?_ (Below.mono (by assumption) (by first | exact Nat.le_refl _ | (simp; done) | (simp; omega) | omega)))))) hs5)))
            · cases kB
              · go_wp2
                exact bodyPost_ret (v := .tuple #[.slice (some ⟨w5.heap.size, 0, none⟩) 0 0, .int .i64 0, .bool false]) (by simp [results, Try.results89, go_sem]) rfl (joinsOut_no HCAN0.out (hBWr.trans (Below.mono (B := w5.heap.size) (by (repeat (first | exact Below.refl _ _ | assumption | (refine Below.drew ?_) | (refine below_drewN ?_ _) | (refine Below.alloc ?_ (by first | exact Nat.le_refl _ | (simp; done) | (simp; omega) | omega) _) | (refine Below.setCell ?_ (by first | exact Nat.le_refl _ | (simp; done) | (simp; omega) | omega) _) | (refine Below.trans ?_ (Below.mono (by assumption) (by first | exact Nat.le_refl _ | (simp; done) | (simp; omega) | omega)))))) hs5)))
              · exact absurd rfl hboth

end Go.Proofs.Ytmjdgplkcocgmaa
