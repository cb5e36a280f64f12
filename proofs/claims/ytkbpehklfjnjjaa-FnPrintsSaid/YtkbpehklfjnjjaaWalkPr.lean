/-
  The walk of the law: how a block may be turned.
-/
import Derived.Test.YtkbpehklfjnjjaaPrnA
import Derived.Test.YtkbpehklfjnjjaaReg
set_option linter.unusedVariables false
set_option linter.unusedSimpArgs false
namespace Go.Proofs.Ytkbpehklfjnjjaa
open Go.RowKit

set_option maxRecDepth 100000 in
set_option maxHeartbeats 4000000 in
theorem walk_FnPrints (A0 : Option Addr) (n0 c0 : Nat) (xs0 : List UInt8) (W : World) (hk0_ : n0 ≤ c0) (hm0_ : c0 ≤ maxLen) (hR0 : Rd W A0 n0 1 xs0 byteC) :
    Calls Try.prog 6 #[.slice A0 n0 c0] W fun e w' => e = .returned (.bool true) ∧ Below W.heap.size W w' := by
  have hn63 : n0 ≤ 9223372036854775807 := by unfold maxLen at hm0_; omega
  rcases Nat.lt_or_ge 1048576 n0 with hn0 | hn0
  · have hbig : decide ((1048576 : Int) < n0) = true := by simpa using (by omega : (1048576 : Int) < n0)
    go_enter Try.func6, Try.ntmps6
    go_wp2_with fail
    refine (big_any A0 n0 c0 _ hn63).mono ?_
    rintro e w' ⟨rfl, rfl⟩
    go_wp2_with fail
    go_ret
    exact ⟨rfl, by (repeat (first | exact Below.refl _ _ | assumption | (refine Below.drew ?_) | (refine below_drewN ?_ _) | (refine Below.alloc ?_ (by first | exact Nat.le_refl _ | (simp; done) | (simp; omega) | omega) _) | (refine Below.setCell ?_ (by first | exact Nat.le_refl _ | (simp; done) | (simp; omega) | omega) _) | (refine Below.trans ?_ (Below.mono (by assumption) (by first | exact Nat.le_refl _ | (simp; done) | (simp; omega) | omega)))))⟩
  have hbig : decide ((1048576 : Int) < n0) = false := by simpa using (by omega : ¬ (1048576 : Int) < n0)
  go_enter Try.func6, Try.ntmps6
  go_wp2_with fail
  refine (big_any A0 n0 c0 _ hn63).mono ?_
  rintro e w' ⟨rfl, rfl⟩
  go_wp2_with fail
  refine (drawTurns_any A0 n0 c0 xs0 _ hR0 hn0).mono ?_
  rintro e w1 ⟨s, B, m, d, cs, B2, m2, d2, ks, rfl, hRb, hm, hRk, hm2, hb1⟩
  obtain ⟨w2, hw2⟩ : ∃ v, Hid (w1.alloc (.cells #[.int .i64 s, .slice B m d] 30) = v) := ⟨_, rfl⟩
  obtain ⟨j, hj⟩ : ∃ j, Hid (w1.heap.size = j) := ⟨_, rfl⟩
  have q2 : w2.heap[j]? = some (.cells #[.int .i64 s, .slice B m d] 30 (0, 0)) := by rw [← hw2.out, ← hj.out]; exact heap_alloc_new w1 _
  have b2 : Below w1.heap.size w1 w2 := by rw [← hw2.out]; exact (Below.refl _ _).alloc (Nat.le_refl _) _
  have hz1 := hb1.size
  have hB2 : Below W.heap.size W w2 := hb1.trans (b2.mono hz1)
  have hRb2 := hRb.below b2
  have hRk2 := hRk.below b2
  clear hRb hRk b2 hR0 hb1 hz1 hbig
  go_wp2_with fail
  rw [hw2.out, hj.out]
  refine (turnsI_any s B m d cs B2 m2 d2 ks _ hRb2 (by omega) hRk2 (by omega)).mono ?_
  rintro e w3 ⟨A3, c3, rfl, hk3, hO3, hb3⟩
  obtain ⟨T, hT⟩ : ∃ T, Hid (T = turnsOf s cs ks) := ⟨_, rfl⟩
  have hT4 : (turnsOf s cs ks).length ≤ 4 := turns_len s cs ks
  have hRT3 := hO3.rd
  rw [← hT.out] at hRT3 hT4 ⊢
  obtain ⟨L, hL⟩ : ∃ L, Hid (L = T.length) := ⟨_, rfl⟩
  rw [← hL.out] at hRT3 hT4 ⊢
  have hRb3 := hRb2.below hb3
  have hRk3 := hRk2.below hb3
  have q3 := (hb3.block j (heap_lt q2)).trans q2
  have hB3 : Below W.heap.size W w3 := hB2.trans (hb3.mono hB2.size)
  obtain ⟨l0, l1, _, _⟩ := box2 q3
  clear hO3 hk3 hb3 hRb2 hRk2 q2 hB2
  go_wp2_with fail
  refine (stiffI_any s B m d cs B2 m2 d2 ks _ hRb3 (by omega) hRk3 (by omega)).mono ?_
  rintro e w4 ⟨A4, c4, rfl, hk4, hO4, hb4⟩
  obtain ⟨F, hF⟩ : ∃ T, Hid (T = stiffOf s cs ks) := ⟨_, rfl⟩
  have hF6 : (stiffOf s cs ks).length ≤ 6 := stiff_len s cs ks
  have hRF4 := hO4.rd
  rw [← hF.out] at hRF4 hF6 ⊢
  obtain ⟨N, hN⟩ : ∃ L, Hid (L = F.length) := ⟨_, rfl⟩
  rw [← hN.out] at hRF4 hF6 ⊢
  have hRT4 := hRT3.below hb4
  have hRb4 := hRb3.below hb4
  have hRk4 := hRk3.below hb4
  have q4 := (hb4.block j (heap_lt q3)).trans q3
  have hB4 : Below W.heap.size W w4 := hB3.trans (hb4.mono hB3.size)
  clear l0 l1
  obtain ⟨l0, l1, _, _⟩ := box2 q4
  clear hO4 hk4 hb4 hRb3 hRk3 hRT3 q3 hB3
  have mt1 : mayTurn 1 (-2) = true := by decide
  have mt2 : mayTurn 2 2 = false := by decide
  have hB4s := hB4.size
  rcases hbk : blockOk s cs with _ | _
  · have hbad := prn_bad (s := s) (cs := cs) (ks := ks) (by rw [hbk]; rfl)
    obtain rfl : L = 0 := by rw [hL.out, hT.out]; exact hbad.1
    obtain rfl : N = 0 := by rw [hN.out, hF.out]; exact hbad.2
    clear hbad
    go_wp2_with (first | (go_at_call 25; refine (blockOkS_any s B m d cs _ hRb4 (by omega)).mono ?_; rintro e w5 ⟨rfl, hb5⟩; rw [hbk]; have hz5 := hb5.size) | (go_at_call 27; refine (mayTurnI_any _ _ _).mono ?_; (first | (rw [mt1]; rintro e w7 ⟨rfl, hb7⟩; have hz7 := hb7.size) | (rw [mt2]; rintro e w8 ⟨rfl, hb8⟩; have hz8 := hb8.size))))
    go_ret
    exact ⟨rfl, hB4.trans (Below.mono (B := w4.heap.size) (by exact (hb5.trans (hb7.mono hz5)).trans (hb8.mono (by omega))) hB4s)⟩
  rcases hpk : printsOk ks with _ | _
  · have hbad := prn_bad (s := s) (cs := cs) (ks := ks) (by rw [hbk, hpk]; rfl)
    obtain rfl : L = 0 := by rw [hL.out, hT.out]; exact hbad.1
    obtain rfl : N = 0 := by rw [hN.out, hF.out]; exact hbad.2
    clear hbad
    go_wp2_with (first | (go_at_call 25; refine (blockOkS_any s B m d cs _ hRb4 (by omega)).mono ?_; rintro e w5 ⟨rfl, hb5⟩; rw [hbk]; have hz5 := hb5.size) | (go_at_call 26; refine (printsOkS_any B2 m2 d2 ks _ (hRk4.below hb5) (by omega)).mono ?_; rintro e w6 ⟨rfl, hb6⟩; rw [hpk]; have hz6 := hb6.size) | (go_at_call 27; refine (mayTurnI_any _ _ _).mono ?_; (first | (rw [mt1]; rintro e w7 ⟨rfl, hb7⟩; have hz7 := hb7.size) | (rw [mt2]; rintro e w8 ⟨rfl, hb8⟩; have hz8 := hb8.size))))
    go_ret
    exact ⟨rfl, hB4.trans (Below.mono (B := w4.heap.size) (by exact ((hb5.trans (hb6.mono hz5)).trans (hb7.mono (by omega))).trans (hb8.mono (by omega))) hB4s)⟩
  have HBK := Lib.hid hbk; have HPK := Lib.hid hpk
  obtain ⟨hend0, hend⟩ := prn_end hbk hpk
  have HPL := Lib.hid (prn_plain hbk)
  have HAS := Lib.hid (fun k (hk : k < 4) => prn_has (s := s) (cs := cs) (ks := ks) hbk hpk hk)
  have HST := Lib.hid (fun a ha => prn_stiff (s := s) (cs := cs) (ks := ks) (a := a) hbk hpk ha)
  rw [← hT.out] at hend0 hend HAS HST
  rw [← hF.out] at hend HST
  rw [← hL.out, ← hN.out] at hend
  have HEND := Lib.hid hend; have HE0 := Lib.hid hend0; clear hend hend0 mt1 mt2
  have hm6 := Lib.hid (prints_len hpk)
  go_wp2_with (first | (go_at_call 25; refine (blockOkS_any s B m d cs _ hRb4 (by omega)).mono ?_; rintro e w5 ⟨rfl, hb5⟩; rw [hbk]; have hz5 := hb5.size) | (go_at_call 26; refine (printsOkS_any B2 m2 d2 ks _ (hRk4.below hb5) (by omega)).mono ?_; rintro e w6 ⟨rfl, hb6⟩; rw [hpk]; have hz6 := hb6.size))
  have hB6 : Below W.heap.size W w6 := hB4.trans ((hb5.trans (hb6.mono hz5)).mono hB4s)
  have hRb6 := (hRb4.below hb5).below hb6
  have hRk6 := (hRk4.below hb5).below hb6
  have hRT6 := (hRT4.below hb5).below hb6
  have hRF6 := (hRF4.below hb5).below hb6
  have q6 := (hb6.block j (Nat.lt_of_lt_of_le (heap_lt q4) hz5)).trans ((hb5.block j (heap_lt q4)).trans q4)
  have hB6s := hB6.size
  clear hbk hpk hb5 hb6 hz5 hz6 hRb4 hRk4 hRT4 hRF4 q4 hB4 hB4s l0 l1
  have Q6 := Lib.hid q6; have hj6 := heap_lt q6; clear q6
  go_loopw [7] (fun i wr => ∃ k : Nat, k ≤ 4 ∧ i = .int .i64 (k : Int) ∧ Below w6.heap.size w6 wr) (fun i _ => 4 - (intOf i).toNat)
  case atStart => exact ⟨0, by omega, rfl, Below.refl _ _⟩
  case round =>
    obtain ⟨k, hk, rfl, hB⟩ := hrel
    have hz := hB.size
    have qr := (hB.block j hj6).trans Q6.out
    obtain ⟨l0, l1, _, _⟩ := box2 qr
    by_cases hlt : k < 4
    · obtain ⟨h1, h2⟩ := HAS.out k hlt
      have hkI : (k : Int) < 4 := by omega
      obtain ⟨q, hq⟩ : ∃ q, Hid ((4 - (k : Int)) % 4 = q) := ⟨_, rfl⟩
      have hq2 : (4 - (k : Int)).tmod 4 = q := by rw [← hq.out]; exact Int.tmod_eq_emod_of_nonneg (by omega)
      have hqb : 0 ≤ q ∧ q ≤ 3 := by rw [← hq.out]; omega
      have hq1 : IntKind.i64.wrap (4 - (k : Int)) = 4 - (k : Int) := by rw [IntKind.wrap_i64]; omega
      have hq3 : IntKind.i64.wrap q = q := by rw [IntKind.wrap_i64]; omega
      rw [hq.out] at h2
      have hRTr := hRT6.below hB; have hRbr := hRb6.below hB; have hRkr := hRk6.below hB
      obtain ⟨b, hb⟩ : ∃ b, Hid (maySee s cs ks k = b) := ⟨_, rfl⟩
      rw [hb.out] at h1 h2
      have hdr := (Below.refl wr.heap.size wr).drew
      have hL4 : L ≤ 1048576 := by omega
      have HRTd := Lib.hid (hRTr.below hdr); have HRbd := Lib.hid (hRbr.below hdr); have HRkd := Lib.hid (hRkr.below hdr)
      clear hRTr hRbr hRkr hdr hqb
      cases b
      all_goals
        go_wp2_with fail
        go_region_held3 (fun v => v.cell? ⟨j, 0, none⟩ = some (.int .i64 s) ∧ v.cell? ⟨j, 1, none⟩ = some (.slice B m d)) (first | exact ⟨l0, l1⟩ | exact ⟨keepcell (w := World.drew wr) l0 hb7, keepcell (w := World.drew wr) l1 hb7⟩ | go_keep) (first | (go_at_call 28; (first | refine (has_any A3 L c3 T _ _ HRTd.out hL4).mono ?_ | refine (has_any A3 L c3 T _ _ (HRTd.out.below hb7) hL4).mono ?_); (first | rw [h1] | rw [h2]); rintro e v ⟨rfl, rfl⟩) | (go_at_call 13; refine (seeI_any s B m d cs B2 m2 d2 ks (k : Int) _ HRbd.out (by omega) HRkd.out (by omega)).mono ?_; rw [hb.out]; rintro e w7 ⟨rfl, hb7⟩))
        all_goals
          go_wp2_with fail
          go_roundw
          case rel => exact ⟨k + 1, by omega, by go_num, hB.trans (Below.mono (B := wr.heap.size) (show Below wr.heap.size wr w7 from ((Below.refl wr.heap.size wr).drew).trans hb7) hz)⟩
          case measure => simp [intOf]; omega
    · obtain rfl : k = 4 := by omega
      have hRbr := hRb6.below hB; have hRkr := hRk6.below hB; have hRTr := hRT6.below hB; have hRFr := hRF6.below hB
      have hBr : Below W.heap.size W wr := hB6.trans (hB.mono hB6s)
      clear hB hRb6 hRk6 hRT6 hRF6 hB6 hB6s
      go_wp2_with fail
      refine (colorsS_any s B m d cs _ hRbr (by omega)).mono ?_
      rintro e w7 ⟨A7, c7, rfl, hk7, hO7, hb7⟩
      have hRC7 := hO7.rd
      have hC6 := colors_len s cs
      obtain ⟨col, hcol⟩ : ∃ l, Hid (l = colorsOf s cs) := ⟨_, rfl⟩
      have HCB := Lib.hid (fun a (ha : a ∈ colorsOf s cs) => colors_bd ha)
      rw [← hcol.out] at hRC7 hC6 HST HCB ⊢
      obtain ⟨M, hM⟩ : ∃ L, Hid (L = col.length) := ⟨_, rfl⟩
      rw [← hM.out] at hRC7 hC6 ⊢
      have hRb7 := hRbr.below hb7; have hRk7 := hRkr.below hb7; have hRT7 := hRTr.below hb7; have hRF7 := hRFr.below hb7
      have hB7 : Below W.heap.size W w7 := hBr.trans (hb7.mono hBr.size)
      have q7 := (hb7.block j (heap_lt qr)).trans qr
      have hB7s := hB7.size
      have Q7 := Lib.hid q7; have hj7 := heap_lt q7
      clear l0 l1 hO7 hk7 hb7 hRbr hRkr hRTr hRFr hBr qr q7 hz
      go_wp2_with fail
      go_loopw [9] (fun i wr => ∃ k : Nat, k ≤ M ∧ i = .int .i64 (k : Int) ∧ Below w7.heap.size w7 wr) (fun i _ => M - (intOf i).toNat)
      case atStart => exact ⟨0, by omega, rfl, Below.refl _ _⟩
      case round =>
        obtain ⟨k, hk, rfl, hB⟩ := hrel
        have hz := hB.size
        have qr := (hB.block j hj7).trans Q7.out
        by_cases hlt : k < M
        · obtain ⟨bc, oc, x, rfl, hbc, hx, hcc⟩ := hRC7.at1 hlt hB
          have hxm := List.mem_of_getElem? hx
          obtain ⟨hx0, hx5⟩ := HCB.out x hxm
          obtain ⟨h1, h2⟩ := HST.out x hxm
          obtain ⟨p, rfl⟩ := Int.eq_ofNat_of_zero_le hx0
          have hp6 : p < m2 := by have h := hm6.out; rw [hRk7.len] at h; omega
          obtain ⟨bk, ok, y, rfl, hbk, hy, hck⟩ := hRk7.at1 hp6 hB
          have hky : kindAt ks (p : Int) = y := by unfold kindAt; rw [Int.toNat_natCast, List.getD_eq_getElem?_getD, hy]; rfl
          rw [hky] at h1 h2
          have hkM : (k : Int) < (M : Int) := by omega
          have hpM : (p : Int) < (m2 : Int) := by omega
          have hRTr := hRT7.below hB; have hRFr := hRF7.below hB
          clear hx hy hky hx0 hx5 hxm
          have hL4 : L ≤ 1048576 := by omega
          have hN4 : N ≤ 1048576 := by omega
          obtain ⟨b, hb⟩ : ∃ b, Hid ((y == 2) = b) := ⟨_, rfl⟩
          have hb2 := hb.out
          rw [hb2] at h1
          rcases ht2 : hasK T 2 with _ | _
          · skip
            clear h2
            cases b
            all_goals
              have hdr : Below wr.heap.size wr (World.drew wr) := (Below.refl _ _).drew
              have HRTd := Lib.hid (hRTr.below hdr); have HRFd := Lib.hid (hRFr.below hdr)
              clear hRTr hRFr
              go_wp2_with fail
              refine wp_region_held_drew (S := (fun v => v.cell? ⟨bc, oc + k, none⟩ = some (.int .i64 (p : Int)) ∧ v.cell? ⟨bk, ok + p, none⟩ = some (.int .i64 y))) (by kernel_rfl) ⟨hcc, hck⟩ (fun hHeld => ?_)
              (refine take_yes (i := 0) (d := some 77) (v := ?_) rfl rfl (by kernel_rfl) (by kernel_rfl) (by kernel_rfl) (by rfl) (fun _ _ _ h => h) ?_ (by assumption) ?_; rotate_left; focus ((intro w' hSw; (try dsimp only at hSw); go_simp) <;> with_reducible rfl)); (try simp only [Act.put, List.setIfInBounds_toArray, List.set_cons_zero, List.set_cons_succ])
              (refine take_yes (i := 1) (d := some 78) (v := ?_) rfl rfl (by kernel_rfl) (by kernel_rfl) (by kernel_rfl) (by rfl) (fun _ _ _ h => h) ?_ (by assumption) ?_; rotate_left; focus ((intro w' hSw; (try dsimp only at hSw); go_simp) <;> with_reducible rfl)); (try simp only [Act.put, List.setIfInBounds_toArray, List.set_cons_zero, List.set_cons_succ])
              (refine take_yes (i := 2) (d := some 79) (v := ?_) rfl rfl (by kernel_rfl) (by kernel_rfl) (by kernel_rfl) (by rfl) (fun _ _ _ h => h) ?_ (by assumption) ?_; rotate_left; focus ((intro w' hSw; (try dsimp only at hSw); go_simp) <;> with_reducible rfl)); (try simp only [Act.put, List.setIfInBounds_toArray, List.set_cons_zero, List.set_cons_succ])
              (refine take_yes (i := 3) (d := some 80) (v := ?_) rfl rfl (by kernel_rfl) (by kernel_rfl) (by kernel_rfl) (by rfl) (fun _ _ _ h => h) ?_ (by assumption) ?_; rotate_left; focus ((intro w' hSw; (try dsimp only at hSw); go_simp) <;> with_reducible rfl)); (try simp only [Act.put, List.setIfInBounds_toArray, List.set_cons_zero, List.set_cons_succ])
              (refine take_yes (i := 4) (d := some 81) (v := ?_) rfl rfl (by kernel_rfl) (by kernel_rfl) (by kernel_rfl) (by rfl) (fun _ _ _ h => h) ?_ (by assumption) ?_; rotate_left; focus ((intro w' hSw; (try dsimp only at hSw); go_simp) <;> with_reducible rfl)); (try simp only [Act.put, List.setIfInBounds_toArray, List.set_cons_zero, List.set_cons_succ])
              (refine take_yes (i := 6) (d := some 83) (v := ?_) rfl rfl (by kernel_rfl) (by kernel_rfl) (by kernel_rfl) (by rfl) (fun _ _ _ h => h) ?_ (by assumption) ?_; rotate_left; focus ((intro w' hSw; (try dsimp only at hSw); go_simp) <;> with_reducible rfl)); (try simp only [Act.put, List.setIfInBounds_toArray, List.set_cons_zero, List.set_cons_succ])
              (refine take_yes (i := 7) (d := some 84) (v := ?_) rfl rfl (by kernel_rfl) (by kernel_rfl) (by kernel_rfl) (by rfl) (fun _ _ _ h => h) ?_ (by assumption) ?_; rotate_left; focus ((intro w' hSw; (try dsimp only at hSw); go_simp) <;> with_reducible rfl)); (try simp only [Act.put, List.setIfInBounds_toArray, List.set_cons_zero, List.set_cons_succ])
              (refine take_yes (i := 8) (d := some 85) (v := ?_) rfl rfl (by kernel_rfl) (by kernel_rfl) (by kernel_rfl) (by rfl) (fun _ _ _ h => h) ?_ (by assumption) ?_; rotate_left; focus ((intro w' hSw; (try dsimp only at hSw); go_simp) <;> with_reducible rfl)); (try simp only [Act.put, List.setIfInBounds_toArray, List.set_cons_zero, List.set_cons_succ])
              (refine take_yes (i := 9) (d := some 86) (v := ?_) rfl rfl (by kernel_rfl) (by kernel_rfl) (by kernel_rfl) (by rfl) (fun _ _ _ h => h) ?_ (by assumption) ?_; rotate_left; focus ((intro w' hSw; (try dsimp only at hSw); go_simp) <;> with_reducible rfl)); (try simp only [Act.put, List.setIfInBounds_toArray, List.set_cons_zero, List.set_cons_succ])
              (refine take_yes (i := 10) (d := some 87) (v := ?_) rfl rfl (by kernel_rfl) (by kernel_rfl) (by kernel_rfl) (by rfl) (fun _ _ _ h => h) ?_ (by assumption) ?_; rotate_left; focus ((intro w' hSw; (try dsimp only at hSw); go_simp) <;> with_reducible rfl)); (try simp only [Act.put, List.setIfInBounds_toArray, List.set_cons_zero, List.set_cons_succ])
              (refine take_yes (i := 11) (d := some 88) (v := ?_) rfl rfl (by kernel_rfl) (by kernel_rfl) (by kernel_rfl) (by rfl) (fun _ _ _ h => h) ?_ (by assumption) ?_; rotate_left; focus ((intro w' hSw; (try dsimp only at hSw); go_simp) <;> with_reducible rfl)); (try simp only [Act.put, List.setIfInBounds_toArray, List.set_cons_zero, List.set_cons_succ])
              (refine take_yes (i := 12) (d := some 89) (v := ?_) rfl rfl (by kernel_rfl) (by kernel_rfl) (by kernel_rfl) (by rfl) (fun _ _ _ h => h) ?_ (by assumption) ?_; rotate_left; focus ((intro w' hSw; (try dsimp only at hSw); go_simp) <;> with_reducible rfl)); (try simp only [Act.put, List.setIfInBounds_toArray, List.set_cons_zero, List.set_cons_succ])
              (refine take_yes (i := 13) (d := some 90) (v := ?_) rfl rfl (by kernel_rfl) (by kernel_rfl) (by kernel_rfl) (by rfl) (fun _ _ _ h => h) ?_ (by assumption) ?_; rotate_left; focus ((intro w' hSw; (try dsimp only at hSw); go_simp) <;> with_reducible rfl)); (try simp only [Act.put, List.setIfInBounds_toArray, List.set_cons_zero, List.set_cons_succ])
              refine wpAnyH_ready (rs := [5]) (by kernel_rfl) (by simp) ?_; refine AllReadyH.cons (o := _) rfl (fun K hK => ?_) AllReadyH.nil; go_simp; (go_at_call 28; refine (has_any A4 N c4 F _ _ HRFd.out hN4).mono ?_; rw [h1]; rintro e v ⟨rfl, rfl⟩)
              refine hK.out _ _ ⟨hcc, hck⟩ (fun hHeld => ?_)
              clear hK K; (try simp only [Act.put, List.setIfInBounds_toArray, List.set_cons_zero, List.set_cons_succ])
              (refine take_yes (i := 14) (d := some 91) (v := ?_) rfl rfl (by kernel_rfl) (by kernel_rfl) (by kernel_rfl) (by rfl) (fun _ _ _ h => h) ?_ (by assumption) ?_; rotate_left; focus ((intro w' hSw; (try dsimp only at hSw); go_simp) <;> with_reducible rfl)); (try simp only [Act.put, List.setIfInBounds_toArray, List.set_cons_zero, List.set_cons_succ])
              (refine take_yes (i := 15) (d := some 92) (v := ?_) rfl rfl (by kernel_rfl) (by kernel_rfl) (by kernel_rfl) (by rfl) (fun _ _ _ h => h) ?_ (by assumption) ?_; rotate_left; focus ((intro w' hSw; (try dsimp only at hSw); go_simp) <;> with_reducible rfl)); (try simp only [Act.put, List.setIfInBounds_toArray, List.set_cons_zero, List.set_cons_succ])
              (refine take_yes (i := 16) (d := some 93) (v := ?_) rfl rfl (by kernel_rfl) (by kernel_rfl) (by kernel_rfl) (by rfl) (fun _ _ _ h => h) ?_ (by assumption) ?_; rotate_left; focus ((intro w' hSw; (try dsimp only at hSw); go_simp) <;> with_reducible rfl)); (try simp only [Act.put, List.setIfInBounds_toArray, List.set_cons_zero, List.set_cons_succ])
              refine wpAnyH_ready (rs := [17]) (by kernel_rfl) (by simp) ?_; refine AllReadyH.cons (o := _) rfl (fun K hK => ?_) AllReadyH.nil; go_simp; (go_at_call 28; refine (has_any A3 L c3 T _ _ HRTd.out hL4).mono ?_; rw [ht2]; rintro e v ⟨rfl, rfl⟩)
              refine hK.out _ _ ⟨hcc, hck⟩ (fun hHeld => ?_)
              clear hK K; (try simp only [Act.put, List.setIfInBounds_toArray, List.set_cons_zero, List.set_cons_succ])
              (refine take_yes (i := 18) (d := some 95) (v := ?_) rfl rfl (by kernel_rfl) (by kernel_rfl) (by kernel_rfl) (by rfl) (fun _ _ _ h => h) ?_ (by assumption) ?_; rotate_left; focus ((intro w' hSw; (try dsimp only at hSw); go_simp) <;> with_reducible rfl)); (try simp only [Act.put, List.setIfInBounds_toArray, List.set_cons_zero, List.set_cons_succ])
              refine take_no (i := 19) (d := some 96) rfl rfl (by kernel_rfl) (by kernel_rfl) (by kernel_rfl) (by rfl) (fun _ _ _ h => h) (by assumption) ?_; (try simp only [Act.put, List.setIfInBounds_toArray, List.set_cons_zero, List.set_cons_succ])
              refine take_no (i := 20) (d := some 97) rfl rfl (by kernel_rfl) (by kernel_rfl) (by kernel_rfl) (by rfl) (fun _ _ _ h => h) (by assumption) ?_; (try simp only [Act.put, List.setIfInBounds_toArray, List.set_cons_zero, List.set_cons_succ])
              refine take_no (i := 21) (d := some 98) rfl rfl (by kernel_rfl) (by kernel_rfl) (by kernel_rfl) (by rfl) (fun _ _ _ h => h) (by assumption) ?_; (try simp only [Act.put, List.setIfInBounds_toArray, List.set_cons_zero, List.set_cons_succ])
              refine take_no (i := 22) (d := some 99) rfl rfl (by kernel_rfl) (by kernel_rfl) (by kernel_rfl) (by rfl) (fun _ _ _ h => h) (by assumption) ?_; (try simp only [Act.put, List.setIfInBounds_toArray, List.set_cons_zero, List.set_cons_succ])
              refine take_no (i := 23) (d := some 100) rfl rfl (by kernel_rfl) (by kernel_rfl) (by kernel_rfl) (by rfl) (fun _ _ _ h => h) (by assumption) ?_; (try simp only [Act.put, List.setIfInBounds_toArray, List.set_cons_zero, List.set_cons_succ])
              refine take_no (i := 24) (d := some 101) rfl rfl (by kernel_rfl) (by kernel_rfl) (by kernel_rfl) (by rfl) (fun _ _ _ h => h) (by assumption) ?_; (try simp only [Act.put, List.setIfInBounds_toArray, List.set_cons_zero, List.set_cons_succ])
              refine take_no (i := 25) (d := some 102) rfl rfl (by kernel_rfl) (by kernel_rfl) (by kernel_rfl) (by rfl) (fun _ _ _ h => h) (by assumption) ?_; (try simp only [Act.put, List.setIfInBounds_toArray, List.set_cons_zero, List.set_cons_succ])
              refine take_no (i := 26) (d := some 103) rfl rfl (by kernel_rfl) (by kernel_rfl) (by kernel_rfl) (by rfl) (fun _ _ _ h => h) (by assumption) ?_; (try simp only [Act.put, List.setIfInBounds_toArray, List.set_cons_zero, List.set_cons_succ])
              refine take_no (i := 27) (d := some 104) rfl rfl (by kernel_rfl) (by kernel_rfl) (by kernel_rfl) (by rfl) (fun _ _ _ h => h) (by assumption) ?_; (try simp only [Act.put, List.setIfInBounds_toArray, List.set_cons_zero, List.set_cons_succ])
              (refine take_yes (i := 28) (d := some 105) (v := ?_) rfl rfl (by kernel_rfl) (by kernel_rfl) (by kernel_rfl) (by rfl) (fun _ _ _ h => h) ?_ (by assumption) ?_; rotate_left; focus ((intro w' hSw; (try dsimp only at hSw); go_simp) <;> with_reducible rfl)); (try simp only [Act.put, List.setIfInBounds_toArray, List.set_cons_zero, List.set_cons_succ])
              (refine take_yes (i := 29) (d := some 106) (v := ?_) rfl rfl (by kernel_rfl) (by kernel_rfl) (by kernel_rfl) (by rfl) (fun _ _ _ h => h) ?_ (by assumption) ?_; rotate_left; focus ((intro w' hSw; (try dsimp only at hSw); go_simp) <;> with_reducible rfl)); (try simp only [Act.put, List.setIfInBounds_toArray, List.set_cons_zero, List.set_cons_succ])
              refine wpAnyH_done (by kernel_rfl) ?_ _
              all_goals
                go_wp2_with fail
                go_roundw
                case rel => exact ⟨k + 1, by omega, by go_num, hB.trans (Below.mono (B := wr.heap.size) hdr hz)⟩
                case measure => simp [intOf]; omega
          · skip
            have hmt := h2 ht2
            clear h2
            cases b
            all_goals
              have hdr : Below wr.heap.size wr (World.drew wr) := (Below.refl _ _).drew
              have HRTd := Lib.hid (hRTr.below hdr); have HRFd := Lib.hid (hRFr.below hdr)
              clear hRTr hRFr
              go_wp2_with fail
              refine wp_region_held_drew (S := (fun v => v.cell? ⟨bc, oc + k, none⟩ = some (.int .i64 (p : Int)) ∧ v.cell? ⟨bk, ok + p, none⟩ = some (.int .i64 y))) (by kernel_rfl) ⟨hcc, hck⟩ (fun hHeld => ?_)
              (refine take_yes (i := 0) (d := some 77) (v := ?_) rfl rfl (by kernel_rfl) (by kernel_rfl) (by kernel_rfl) (by rfl) (fun _ _ _ h => h) ?_ (by assumption) ?_; rotate_left; focus ((intro w' hSw; (try dsimp only at hSw); go_simp) <;> with_reducible rfl)); (try simp only [Act.put, List.setIfInBounds_toArray, List.set_cons_zero, List.set_cons_succ])
              (refine take_yes (i := 1) (d := some 78) (v := ?_) rfl rfl (by kernel_rfl) (by kernel_rfl) (by kernel_rfl) (by rfl) (fun _ _ _ h => h) ?_ (by assumption) ?_; rotate_left; focus ((intro w' hSw; (try dsimp only at hSw); go_simp) <;> with_reducible rfl)); (try simp only [Act.put, List.setIfInBounds_toArray, List.set_cons_zero, List.set_cons_succ])
              (refine take_yes (i := 2) (d := some 79) (v := ?_) rfl rfl (by kernel_rfl) (by kernel_rfl) (by kernel_rfl) (by rfl) (fun _ _ _ h => h) ?_ (by assumption) ?_; rotate_left; focus ((intro w' hSw; (try dsimp only at hSw); go_simp) <;> with_reducible rfl)); (try simp only [Act.put, List.setIfInBounds_toArray, List.set_cons_zero, List.set_cons_succ])
              (refine take_yes (i := 3) (d := some 80) (v := ?_) rfl rfl (by kernel_rfl) (by kernel_rfl) (by kernel_rfl) (by rfl) (fun _ _ _ h => h) ?_ (by assumption) ?_; rotate_left; focus ((intro w' hSw; (try dsimp only at hSw); go_simp) <;> with_reducible rfl)); (try simp only [Act.put, List.setIfInBounds_toArray, List.set_cons_zero, List.set_cons_succ])
              (refine take_yes (i := 4) (d := some 81) (v := ?_) rfl rfl (by kernel_rfl) (by kernel_rfl) (by kernel_rfl) (by rfl) (fun _ _ _ h => h) ?_ (by assumption) ?_; rotate_left; focus ((intro w' hSw; (try dsimp only at hSw); go_simp) <;> with_reducible rfl)); (try simp only [Act.put, List.setIfInBounds_toArray, List.set_cons_zero, List.set_cons_succ])
              (refine take_yes (i := 6) (d := some 83) (v := ?_) rfl rfl (by kernel_rfl) (by kernel_rfl) (by kernel_rfl) (by rfl) (fun _ _ _ h => h) ?_ (by assumption) ?_; rotate_left; focus ((intro w' hSw; (try dsimp only at hSw); go_simp) <;> with_reducible rfl)); (try simp only [Act.put, List.setIfInBounds_toArray, List.set_cons_zero, List.set_cons_succ])
              (refine take_yes (i := 7) (d := some 84) (v := ?_) rfl rfl (by kernel_rfl) (by kernel_rfl) (by kernel_rfl) (by rfl) (fun _ _ _ h => h) ?_ (by assumption) ?_; rotate_left; focus ((intro w' hSw; (try dsimp only at hSw); go_simp) <;> with_reducible rfl)); (try simp only [Act.put, List.setIfInBounds_toArray, List.set_cons_zero, List.set_cons_succ])
              (refine take_yes (i := 8) (d := some 85) (v := ?_) rfl rfl (by kernel_rfl) (by kernel_rfl) (by kernel_rfl) (by rfl) (fun _ _ _ h => h) ?_ (by assumption) ?_; rotate_left; focus ((intro w' hSw; (try dsimp only at hSw); go_simp) <;> with_reducible rfl)); (try simp only [Act.put, List.setIfInBounds_toArray, List.set_cons_zero, List.set_cons_succ])
              (refine take_yes (i := 9) (d := some 86) (v := ?_) rfl rfl (by kernel_rfl) (by kernel_rfl) (by kernel_rfl) (by rfl) (fun _ _ _ h => h) ?_ (by assumption) ?_; rotate_left; focus ((intro w' hSw; (try dsimp only at hSw); go_simp) <;> with_reducible rfl)); (try simp only [Act.put, List.setIfInBounds_toArray, List.set_cons_zero, List.set_cons_succ])
              (refine take_yes (i := 10) (d := some 87) (v := ?_) rfl rfl (by kernel_rfl) (by kernel_rfl) (by kernel_rfl) (by rfl) (fun _ _ _ h => h) ?_ (by assumption) ?_; rotate_left; focus ((intro w' hSw; (try dsimp only at hSw); go_simp) <;> with_reducible rfl)); (try simp only [Act.put, List.setIfInBounds_toArray, List.set_cons_zero, List.set_cons_succ])
              (refine take_yes (i := 11) (d := some 88) (v := ?_) rfl rfl (by kernel_rfl) (by kernel_rfl) (by kernel_rfl) (by rfl) (fun _ _ _ h => h) ?_ (by assumption) ?_; rotate_left; focus ((intro w' hSw; (try dsimp only at hSw); go_simp) <;> with_reducible rfl)); (try simp only [Act.put, List.setIfInBounds_toArray, List.set_cons_zero, List.set_cons_succ])
              (refine take_yes (i := 12) (d := some 89) (v := ?_) rfl rfl (by kernel_rfl) (by kernel_rfl) (by kernel_rfl) (by rfl) (fun _ _ _ h => h) ?_ (by assumption) ?_; rotate_left; focus ((intro w' hSw; (try dsimp only at hSw); go_simp) <;> with_reducible rfl)); (try simp only [Act.put, List.setIfInBounds_toArray, List.set_cons_zero, List.set_cons_succ])
              (refine take_yes (i := 13) (d := some 90) (v := ?_) rfl rfl (by kernel_rfl) (by kernel_rfl) (by kernel_rfl) (by rfl) (fun _ _ _ h => h) ?_ (by assumption) ?_; rotate_left; focus ((intro w' hSw; (try dsimp only at hSw); go_simp) <;> with_reducible rfl)); (try simp only [Act.put, List.setIfInBounds_toArray, List.set_cons_zero, List.set_cons_succ])
              refine wpAnyH_ready (rs := [5]) (by kernel_rfl) (by simp) ?_; refine AllReadyH.cons (o := _) rfl (fun K hK => ?_) AllReadyH.nil; go_simp; (go_at_call 28; refine (has_any A4 N c4 F _ _ HRFd.out hN4).mono ?_; rw [h1]; rintro e v ⟨rfl, rfl⟩)
              refine hK.out _ _ ⟨hcc, hck⟩ (fun hHeld => ?_)
              clear hK K; (try simp only [Act.put, List.setIfInBounds_toArray, List.set_cons_zero, List.set_cons_succ])
              (refine take_yes (i := 14) (d := some 91) (v := ?_) rfl rfl (by kernel_rfl) (by kernel_rfl) (by kernel_rfl) (by rfl) (fun _ _ _ h => h) ?_ (by assumption) ?_; rotate_left; focus ((intro w' hSw; (try dsimp only at hSw); go_simp) <;> with_reducible rfl)); (try simp only [Act.put, List.setIfInBounds_toArray, List.set_cons_zero, List.set_cons_succ])
              (refine take_yes (i := 15) (d := some 92) (v := ?_) rfl rfl (by kernel_rfl) (by kernel_rfl) (by kernel_rfl) (by rfl) (fun _ _ _ h => h) ?_ (by assumption) ?_; rotate_left; focus ((intro w' hSw; (try dsimp only at hSw); go_simp) <;> with_reducible rfl)); (try simp only [Act.put, List.setIfInBounds_toArray, List.set_cons_zero, List.set_cons_succ])
              (refine take_yes (i := 16) (d := some 93) (v := ?_) rfl rfl (by kernel_rfl) (by kernel_rfl) (by kernel_rfl) (by rfl) (fun _ _ _ h => h) ?_ (by assumption) ?_; rotate_left; focus ((intro w' hSw; (try dsimp only at hSw); go_simp) <;> with_reducible rfl)); (try simp only [Act.put, List.setIfInBounds_toArray, List.set_cons_zero, List.set_cons_succ])
              refine wpAnyH_ready (rs := [17]) (by kernel_rfl) (by simp) ?_; refine AllReadyH.cons (o := _) rfl (fun K hK => ?_) AllReadyH.nil; go_simp; (go_at_call 28; refine (has_any A3 L c3 T _ _ HRTd.out hL4).mono ?_; rw [ht2]; rintro e v ⟨rfl, rfl⟩)
              refine hK.out _ _ ⟨hcc, hck⟩ (fun hHeld => ?_)
              clear hK K; (try simp only [Act.put, List.setIfInBounds_toArray, List.set_cons_zero, List.set_cons_succ])
              (refine take_yes (i := 18) (d := some 95) (v := ?_) rfl rfl (by kernel_rfl) (by kernel_rfl) (by kernel_rfl) (by rfl) (fun _ _ _ h => h) ?_ (by assumption) ?_; rotate_left; focus ((intro w' hSw; (try dsimp only at hSw); go_simp) <;> with_reducible rfl)); (try simp only [Act.put, List.setIfInBounds_toArray, List.set_cons_zero, List.set_cons_succ])
              (refine take_yes (i := 19) (d := some 96) (v := ?_) rfl rfl (by kernel_rfl) (by kernel_rfl) (by kernel_rfl) (by rfl) (fun _ _ _ h => h) ?_ (by assumption) ?_; rotate_left; focus ((intro w' hSw; (try dsimp only at hSw); go_simp) <;> with_reducible rfl)); (try simp only [Act.put, List.setIfInBounds_toArray, List.set_cons_zero, List.set_cons_succ])
              (refine take_yes (i := 20) (d := some 97) (v := ?_) rfl rfl (by kernel_rfl) (by kernel_rfl) (by kernel_rfl) (by rfl) (fun _ _ _ h => h) ?_ (by assumption) ?_; rotate_left; focus ((intro w' hSw; (try dsimp only at hSw); go_simp) <;> with_reducible rfl)); (try simp only [Act.put, List.setIfInBounds_toArray, List.set_cons_zero, List.set_cons_succ])
              (refine take_yes (i := 21) (d := some 98) (v := ?_) rfl rfl (by kernel_rfl) (by kernel_rfl) (by kernel_rfl) (by rfl) (fun _ _ _ h => h) ?_ (by assumption) ?_; rotate_left; focus ((intro w' hSw; (try dsimp only at hSw); go_simp) <;> with_reducible rfl)); (try simp only [Act.put, List.setIfInBounds_toArray, List.set_cons_zero, List.set_cons_succ])
              (refine take_yes (i := 22) (d := some 99) (v := ?_) rfl rfl (by kernel_rfl) (by kernel_rfl) (by kernel_rfl) (by rfl) (fun _ _ _ h => h) ?_ (by assumption) ?_; rotate_left; focus ((intro w' hSw; (try dsimp only at hSw); go_simp) <;> with_reducible rfl)); (try simp only [Act.put, List.setIfInBounds_toArray, List.set_cons_zero, List.set_cons_succ])
              (refine take_yes (i := 23) (d := some 100) (v := ?_) rfl rfl (by kernel_rfl) (by kernel_rfl) (by kernel_rfl) (by rfl) (fun _ _ _ h => h) ?_ (by assumption) ?_; rotate_left; focus ((intro w' hSw; (try dsimp only at hSw); go_simp) <;> with_reducible rfl)); (try simp only [Act.put, List.setIfInBounds_toArray, List.set_cons_zero, List.set_cons_succ])
              (refine take_yes (i := 24) (d := some 101) (v := ?_) rfl rfl (by kernel_rfl) (by kernel_rfl) (by kernel_rfl) (by rfl) (fun _ _ _ h => h) ?_ (by assumption) ?_; rotate_left; focus ((intro w' hSw; (try dsimp only at hSw); go_simp) <;> with_reducible rfl)); (try simp only [Act.put, List.setIfInBounds_toArray, List.set_cons_zero, List.set_cons_succ])
              (refine take_yes (i := 25) (d := some 102) (v := ?_) rfl rfl (by kernel_rfl) (by kernel_rfl) (by kernel_rfl) (by rfl) (fun _ _ _ h => h) ?_ (by assumption) ?_; rotate_left; focus ((intro w' hSw; (try dsimp only at hSw); go_simp) <;> with_reducible rfl)); (try simp only [Act.put, List.setIfInBounds_toArray, List.set_cons_zero, List.set_cons_succ])
              refine wpAnyH_ready (rs := [26]) (by kernel_rfl) (by simp) ?_; refine AllReadyH.cons (o := _) rfl (fun K hK => ?_) AllReadyH.nil; go_simp; (go_at_call 27; refine (mayTurnI_any _ _ _).mono ?_; rw [hmt]; rintro e w8 ⟨rfl, hb8⟩)
              refine hK.out _ _ ⟨keepcell (w := World.drew wr) hcc hb8, keepcell (w := World.drew wr) hck hb8⟩ (fun hHeld => ?_)
              clear hK K; (try simp only [Act.put, List.setIfInBounds_toArray, List.set_cons_zero, List.set_cons_succ])
              (refine take_yes (i := 27) (d := some 104) (v := ?_) rfl rfl (by kernel_rfl) (by kernel_rfl) (by kernel_rfl) (by rfl) (fun _ _ _ h => h) ?_ (by assumption) ?_; rotate_left; focus ((intro w' hSw; (try dsimp only at hSw); go_simp) <;> with_reducible rfl)); (try simp only [Act.put, List.setIfInBounds_toArray, List.set_cons_zero, List.set_cons_succ])
              (refine take_yes (i := 28) (d := some 105) (v := ?_) rfl rfl (by kernel_rfl) (by kernel_rfl) (by kernel_rfl) (by rfl) (fun _ _ _ h => h) ?_ (by assumption) ?_; rotate_left; focus ((intro w' hSw; (try dsimp only at hSw); go_simp) <;> with_reducible rfl)); (try simp only [Act.put, List.setIfInBounds_toArray, List.set_cons_zero, List.set_cons_succ])
              (refine take_yes (i := 29) (d := some 106) (v := ?_) rfl rfl (by kernel_rfl) (by kernel_rfl) (by kernel_rfl) (by rfl) (fun _ _ _ h => h) ?_ (by assumption) ?_; rotate_left; focus ((intro w' hSw; (try dsimp only at hSw); go_simp) <;> with_reducible rfl)); (try simp only [Act.put, List.setIfInBounds_toArray, List.set_cons_zero, List.set_cons_succ])
              refine wpAnyH_done (by kernel_rfl) ?_ _
              all_goals
                go_wp2_with fail
                go_roundw
                case rel => exact ⟨k + 1, by omega, by go_num, hB.trans (Below.mono (B := wr.heap.size) (show Below wr.heap.size wr w8 from hdr.trans hb8) hz)⟩
                case measure => simp [intOf]; omega
        · obtain rfl : k = M := by omega
          have hbz : Below wr.heap.size wr (wr.alloc (.cells #[.int .i64 0, .int .i64 0, .int .i64 0, .int .i64 0, .int .i64 0, .int .i64 0] 3)) := (Below.refl _ _).alloc (Nat.le_refl _) _
          have hZ : Rd (wr.alloc (.cells #[.int .i64 0, .int .i64 0, .int .i64 0, .int .i64 0, .int .i64 0, .int .i64 0] 3)) (some ⟨wr.heap.size, 0, none⟩) 6 1 ([0, 0, 0, 0, 0, 0] : List Int) intC := (RdIn.of_acc (lo := 0) (Acc.lit wr 0 3 1 ([0, 0, 0, 0, 0, 0] : List Int) intC #[.int .i64 0, .int .i64 0, .int .i64 0, .int .i64 0, .int .i64 0, .int .i64 0] rfl (Nat.zero_le _) (by simp [maxLen]) rfl rfl) intC_len).rd
          have hRbu := (hRb7.below hB).below hbz; have hRTu := (hRT7.below hB).below hbz
          have q9 := (hbz.block j (heap_lt qr)).trans qr
          have hBu : Below W.heap.size W (wr.alloc (.cells #[.int .i64 0, .int .i64 0, .int .i64 0, .int .i64 0, .int .i64 0, .int .i64 0] 3)) := (hB7.trans (hB.mono hB7s)).trans (hbz.mono (by omega))
          obtain ⟨u, hu⟩ : ∃ v, Hid (wr.alloc (.cells #[.int .i64 0, .int .i64 0, .int .i64 0, .int .i64 0, .int .i64 0, .int .i64 0] 3) = v) := ⟨_, rfl⟩
          obtain ⟨z, hz9⟩ : ∃ v, Hid (wr.heap.size = v) := ⟨_, rfl⟩
          rw [hu.out] at hRbu hRTu q9 hBu
          rw [hz9.out, hu.out] at hZ
          obtain ⟨l0, l1, _, _⟩ := box2 q9
          have hBus := hBu.size
          have HZ := Lib.hid hZ; have HRB := Lib.hid hRbu; have HRT := Lib.hid hRTu
          clear hbz hB hB7 hB7s qr q9 hZ hRbu hRTu hRb7 hRk7 hRT7 hRF7 hRC7 HST HAS HCB hz hj7 hj6 hlt hC6
          rcases HEND.out with ⟨e1, h1⟩ | ⟨e1, h1, e2⟩ | ⟨e1, e2⟩
          · obtain rfl : L = 1 := e1
            go_wp2_with (first | rw [hu.out] | rw [hz9.out] | (go_at_call 28; refine (has_any A3 _ c3 T _ _ HRT.out (by omega)).mono ?_; (first | rw [HE0.out] | rw [h1]); rintro e v ⟨rfl, rfl⟩) | (go_at_call 22; refine (turnsI_any s B m d cs (some ⟨z, 0, none⟩) 6 6 ([0, 0, 0, 0, 0, 0] : List Int) _ HRB.out (by omega) HZ.out (by omega)).mono ?_; rw [HPL.out]; rintro e w8 ⟨A8, c8, rfl, hk8, hO8, hb8⟩; have hz8 := hb8.size) | (go_at_call 30; refine (printsOkI_any (some ⟨z, 0, none⟩) 6 6 ([0, 0, 0, 0, 0, 0] : List Int) _ (HZ.out.below hb8) (by omega)).mono ?_; rw [zeros_ok]; rintro e w9 ⟨rfl, hb9⟩))
            all_goals
              go_ret
              exact ⟨rfl, hBu.trans ((hb8.trans (hb9.mono hz8)).mono hBus)⟩
          · obtain rfl : L = 2 := e1
            obtain rfl : N = 0 := e2
            go_wp2_with (first | rw [hu.out] | rw [hz9.out] | (go_at_call 28; refine (has_any A3 _ c3 T _ _ HRT.out (by omega)).mono ?_; (first | rw [HE0.out] | rw [h1]); rintro e v ⟨rfl, rfl⟩) | (go_at_call 22; refine (turnsI_any s B m d cs (some ⟨z, 0, none⟩) 6 6 ([0, 0, 0, 0, 0, 0] : List Int) _ HRB.out (by omega) HZ.out (by omega)).mono ?_; rw [HPL.out]; rintro e w8 ⟨A8, c8, rfl, hk8, hO8, hb8⟩; have hz8 := hb8.size) | (go_at_call 30; refine (printsOkI_any (some ⟨z, 0, none⟩) 6 6 ([0, 0, 0, 0, 0, 0] : List Int) _ (HZ.out.below hb8) (by omega)).mono ?_; rw [zeros_ok]; rintro e w9 ⟨rfl, hb9⟩))
            all_goals
              go_ret
              exact ⟨rfl, hBu.trans ((hb8.trans (hb9.mono hz8)).mono hBus)⟩
          · obtain rfl : L = 4 := e1
            obtain rfl : N = 0 := e2
            rcases h1 : hasK T 1 with _ | _
            · skip
              go_wp2_with (first | rw [hu.out] | rw [hz9.out] | (go_at_call 28; refine (has_any A3 _ c3 T _ _ HRT.out (by omega)).mono ?_; (first | rw [HE0.out] | rw [h1]); rintro e v ⟨rfl, rfl⟩) | (go_at_call 22; refine (turnsI_any s B m d cs (some ⟨z, 0, none⟩) 6 6 ([0, 0, 0, 0, 0, 0] : List Int) _ HRB.out (by omega) HZ.out (by omega)).mono ?_; rw [HPL.out]; rintro e w8 ⟨A8, c8, rfl, hk8, hO8, hb8⟩; have hz8 := hb8.size) | (go_at_call 30; refine (printsOkI_any (some ⟨z, 0, none⟩) 6 6 ([0, 0, 0, 0, 0, 0] : List Int) _ (HZ.out.below hb8) (by omega)).mono ?_; rw [zeros_ok]; rintro e w9 ⟨rfl, hb9⟩))
              all_goals
                go_ret
                exact ⟨rfl, hBu.trans ((hb8.trans (hb9.mono hz8)).mono hBus)⟩
            · skip
              go_wp2_with (first | rw [hu.out] | rw [hz9.out] | (go_at_call 28; refine (has_any A3 _ c3 T _ _ HRT.out (by omega)).mono ?_; (first | rw [HE0.out] | rw [h1]); rintro e v ⟨rfl, rfl⟩) | (go_at_call 22; refine (turnsI_any s B m d cs (some ⟨z, 0, none⟩) 6 6 ([0, 0, 0, 0, 0, 0] : List Int) _ HRB.out (by omega) HZ.out (by omega)).mono ?_; rw [HPL.out]; rintro e w8 ⟨A8, c8, rfl, hk8, hO8, hb8⟩; have hz8 := hb8.size) | (go_at_call 30; refine (printsOkI_any (some ⟨z, 0, none⟩) 6 6 ([0, 0, 0, 0, 0, 0] : List Int) _ (HZ.out.below hb8) (by omega)).mono ?_; rw [zeros_ok]; rintro e w9 ⟨rfl, hb9⟩))
              all_goals
                go_ret
                exact ⟨rfl, hBu.trans ((hb8.trans (hb9.mono hz8)).mono hBus)⟩

end Go.Proofs.Ytkbpehklfjnjjaa
