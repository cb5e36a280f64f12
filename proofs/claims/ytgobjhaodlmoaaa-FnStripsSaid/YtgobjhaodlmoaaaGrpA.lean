/-
  Contracts over needs: equal ones are put together.
-/
import Derived.Test.YtgobjhaodlmoaaaNeedC
import Derived.Test.YtgobjhaodlmoaaaPlainG
import Derived.Test.YtgobjhaodlmoaaaAccSet
set_option linter.unusedVariables false
namespace Go.Proofs.Ytgobjhaodlmoaaa
open Go.RowKit

theorem infoNeed : (Try.prog.info? 25).map (fun i => (i.zero, i.size, i.bytes)) = some (some (.agg #[.int .i64 0, .int .i64 0, .int .i64 0]), 3, 24) := by kernel_rfl
theorem grp_bd {l : List Need} (h : needsOk l = true) (k : Nat) : ∀ x ∈ grp (l.take k), 1 ≤ x.Count ∧ x.Count ≤ 1600 := by
  have h8 := needsOk_len h
  have hs := grp_sizes (l := l.take k) fun x hx => sizeOk_of (needs_all h x (List.mem_of_mem_take hx))
  intro x hx
  refine ⟨(hs x hx).2.2, ?_⟩
  have h1 := (count_le_sum fun x hx => by have := (hs x hx).2.2; omega).2 x hx
  rw [countBy_grp] at h1
  have h2 := countBy_le (l := l.take k) (b := 200) fun y hy => (needOk_bd (needs_all h y (List.mem_of_mem_take hy))).2.2.2
  have h3 : (l.take k).length ≤ 8 := Nat.le_trans (by rw [List.length_take]; omega) h8
  omega
/-- Where the first loop over what has been built stands: i elements looked at. -/
def Found (G d : List Need) (x : Need) (i : Nat) (dn : Bool) : Prop :=
  (dn = false ∧ d = G ∧ ∀ (j : Nat) (y : Need), j < i → G[j]? = some y → keyEq y x = false) ∨ (dn = true ∧ d = addTo G x ∧ ∃ (p : Nat) (y : Need), p < i ∧ G[p]? = some y ∧ keyEq y x = true)
theorem found_len {G d : List Need} {x : Need} {i : Nat} {dn : Bool} (hk : Keys G) (h : Found G d x i dn) : d.length = G.length := by
  rcases h with ⟨_, rfl, _⟩ | ⟨_, rfl, p, y, hp, hy, hky⟩
  · rfl
  · rw [addTo_hit hy hky fun j z hj hz => keys_hit hk hy hky j z (by omega) hz, List.length_set]
theorem found_at {G d : List Need} {x : Need} {i : Nat} (hk : Keys G) (h : Found G d x i true) : d[i]? = G[i]? ∧ ∀ y, G[i]? = some y → keyEq y x = false := by
  rcases h with ⟨h, _⟩ | ⟨_, rfl, p, y, hp, hy, hky⟩
  · cases h
  · have hn := keys_hit hk hy hky
    refine ⟨?_, fun z hz => hn i z (by omega) hz⟩
    rw [addTo_hit hy hky fun j z hj hz => hn j z (by omega) hz, List.getElem?_set, if_neg (by omega)]
theorem found_next {G d : List Need} {x : Need} {i : Nat} {dn : Bool} (h : Found G d x i dn) (hn : ∀ y, G[i]? = some y → keyEq y x = false) : Found G d x (i + 1) dn := by
  rcases h with ⟨h1, h2, h3⟩ | ⟨h1, h2, p, y, hp, h4⟩
  · refine .inl ⟨h1, h2, fun j y hj hy => ?_⟩
    by_cases e : j = i
    · subst e; exact hn y hy
    · exact h3 j y (by omega) hy
  · exact .inr ⟨h1, h2, p, y, by omega, h4⟩
theorem found_hit {G d : List Need} {x y : Need} {i : Nat} (h : Found G d x i false) (hy : G[i]? = some y) (hk : keyEq y x = true) : d = G ∧ Found G (G.set i (more y x)) x (i + 1) true := by
  rcases h with ⟨_, rfl, h3⟩ | ⟨h1, _⟩
  · exact ⟨rfl, .inr ⟨rfl, (addTo_hit hy hk h3).symm, i, y, by omega, hy, hk⟩⟩
  · cases h1
theorem found_end {G d : List Need} {x : Need} {i : Nat} {dn : Bool} (hl : G.length ≤ i) (h : Found G d x i dn) : if dn then d = addTo G x else d = G ∧ addTo G x = G ++ [x] := by
  rcases h with ⟨rfl, rfl, h3⟩ | ⟨rfl, rfl, _⟩
  · rw [if_neg (by simp)]
    exact ⟨rfl, addTo_miss fun j y hy => h3 j y (Nat.lt_of_lt_of_le (List.getElem?_eq_some_iff.1 hy).1 hl) hy⟩
  · rw [if_pos rfl]
theorem needC_put (y x : Need) : needC (more y x) = (needC y).set 2 (.int .i64 (y.Count + x.Count)) := rfl

set_option maxRecDepth 100000 in
set_option maxHeartbeats 2000000 in
theorem groupI_any (A : Option Addr) (n c : Nat) (xs : List Need) (W : World) (h : Rd W A n 3 xs needC) (hn : n ≤ 1048576) :
    Calls Try.prog 28 #[.slice A n c] W (Made W (groupNeeds xs).length 3 (groupNeeds xs) needC) := by
  have HLEN := Lib.hid h.len
  rcases hok : needsOk xs with _ | _
  · rw [group_no hok]
    go_enter Try.func28, Try.ntmps28
    go_wp2_with fail
    refine (needsOkI_any A n c xs _ h hn).mono ?_
    rintro e w1 ⟨rfl, hb1⟩
    rw [hok]
    go_wp2_with fail
    go_ret
    exact ⟨none, 0, rfl, Nat.le_refl _, Own.nil _ _ _ _ _ _, hb1⟩
  · have HOK := Lib.hid hok
    have h8 := needsOk_len hok
    rw [HLEN.out] at h8
    go_enter Try.func28, Try.ntmps28
    go_wp2_with fail
    refine (needsOkI_any A n c xs _ h hn).mono ?_
    rintro e w1 ⟨rfl, hb1⟩
    rw [hok]
    have hz1 := hb1.size
    go_wp2_with fail
    have hacc0 := Acc.lit0 w1 W.heap.size 25 3 needC hz1 rfl
    go_loopw [3, 14] (fun o i wr => ∃ k : Nat, k ≤ n ∧ i = .int .i64 (k : Int) ∧ Acc wr W.heap.size 25 3 o (grp (xs.take k)) needC ∧ Below W.heap.size W wr) (fun _ i _ => n - (intOf i).toNat)
    case atStart => exact ⟨0, Nat.zero_le _, rfl, hacc0, by (repeat (first | exact Below.refl _ _ | assumption | (refine Below.drew ?_) | (refine below_drewN ?_ _) | (refine Below.alloc ?_ (by first | exact Nat.le_refl _ | (simp; done) | (simp; omega) | omega) _) | (refine Below.setCell ?_ (by first | exact Nat.le_refl _ | (simp; done) | (simp; omega) | omega) _) | (refine Below.trans ?_ (Below.mono (by assumption) (by first | exact Nat.le_refl _ | (simp; done) | (simp; omega) | omega)))))⟩
    case round =>
      obtain ⟨k, hk, rfl, hacc, hB⟩ := hrel
      have hz := hB.size
      have HK := Lib.hid (grp_keys (xs.take k))
      have HBD := Lib.hid (grp_bd HOK.out k)
      have hgl := (grp_len (xs.take k)).1
      have htl : (xs.take k).length ≤ k := List.length_take_le _ _
      by_cases hlt : k < n
      · obtain ⟨b, off, x, rfl, hbW, hx, g0, g1, g2⟩ := h.need hlt hB
        have HS := Lib.hid (grp_succ hx)
        have hxb := needOk_bd (needsOk_at HOK.out hx)
        clear hx
        obtain ⟨xW, xH, xC⟩ := x
        simp only at g0 g1 g2 hxb
        generalize grp (xs.take k) = G at hacc HK HBD hgl HS
        obtain ⟨A1, c1, rfl, hc1, hO⟩ := hacc.own needC_len
        clear hO
        go_wp2_with fail
        obtain ⟨jb, hjb⟩ : ∃ j, Hid (j = wr.heap.size) := ⟨_, rfl⟩
        have hn0 : (wr.alloc (.cells #[.int .i64 xW, .int .i64 xH, .int .i64 xC] 25)).heap[jb]? = some (.cells #[.int .i64 xW, .int .i64 xH, .int .i64 xC] 25 (0, 0)) := by rw [hjb.out]; exact heap_alloc_new wr _
        have hacca := hacc.alloc (.cells #[.int .i64 xW, .int .i64 xH, .int .i64 xC] 25)
        have hBa : Below W.heap.size W (wr.alloc (.cells #[.int .i64 xW, .int .i64 xH, .int .i64 xC] 25)) := by (repeat (first | exact Below.refl _ _ | assumption | (refine Below.drew ?_) | (refine below_drewN ?_ _) | (refine Below.alloc ?_ (by first | exact Nat.le_refl _ | (simp; done) | (simp; omega) | omega) _) | (refine Below.setCell ?_ (by first | exact Nat.le_refl _ | (simp; done) | (simp; omega) | omega) _) | (refine Below.trans ?_ (Below.mono (by assumption) (by first | exact Nat.le_refl _ | (simp; done) | (simp; omega) | omega)))))
        have hsep : ∀ g, Value.ownBlock (.slice A1 G.length c1) = some g → g < jb := fun g hg => by rw [hjb.out]; exact (hacc.row hg).2
        rw [← hjb.out]
        generalize wr.alloc (.cells #[.int .i64 xW, .int .i64 xH, .int .i64 xC] 25) = wa at hn0 hacca hBa ⊢
        go_loopw [6, 20] (fun dn i wr => ∃ (i' : Nat) (dnb : Bool) (d : List Need), i' ≤ G.length ∧ i = .int .i64 (i' : Int) ∧ dn = .bool dnb ∧ Acc wr W.heap.size 25 3 (.slice A1 G.length c1) d needC ∧ Hid (Found G d ⟨xW, xH, xC⟩ i' dnb) ∧ wr.heap[jb]? = some (.cells #[.int .i64 xW, .int .i64 xH, .int .i64 xC] 25 (0, 0)) ∧ Below W.heap.size W wr) (fun _ i _ => G.length - (intOf i).toNat)
        case atStart => exact ⟨0, false, G, Nat.zero_le _, rfl, rfl, hacca, .inl ⟨rfl, rfl, fun j y hj => absurd hj (by omega)⟩, hn0, hBa⟩
        case round =>
          clear hacca hBa hn0
          obtain ⟨i', dnb, d, hi', rfl, rfl, hacc, hF, hn0, hB⟩ := hrel
          have hz := hB.size
          have hdl := found_len HK.out hF.out
          have e0 : wr.cell? ⟨jb, 0, none⟩ = some (.int .i64 xW) := by rw [cell_of_row _ _ _ _ _ _ hn0]; rfl
          have e1 : wr.cell? ⟨jb, 1, none⟩ = some (.int .i64 xH) := by rw [cell_of_row _ _ _ _ _ _ hn0]; rfl
          have e2 : wr.cell? ⟨jb, 2, none⟩ = some (.int .i64 xC) := by rw [cell_of_row _ _ _ _ _ _ hn0]; rfl
          by_cases hli : i' < G.length
          · obtain ⟨y, hy⟩ : ∃ y, d[i']? = some y := ⟨_, List.getElem?_eq_getElem (by omega)⟩
            have hGy : G[i']? = some y ∧ (dnb = true → keyEq y ⟨xW, xH, xC⟩ = false) := by
              cases dnb
              · rcases hF.out with ⟨_, rfl, _⟩ | ⟨hh, _⟩
                · exact ⟨hy, fun hh => by cases hh⟩
                · cases hh
              · obtain ⟨h1, h2⟩ := found_at HK.out hF.out
                rw [h1] at hy
                exact ⟨hy, fun _ => h2 y hy⟩
            obtain ⟨g, c2, ev, hgl2, hgw, hcell, hfz⟩ := hacc.cells_at needC_len hy
            injection ev with ev1 ev2 ev3
            subst ev1 ev3
            have y0 := hcell 0 _ rfl
            have y1 := hcell 1 _ rfl
            have y2 := hcell 2 _ rfl
            rw [Nat.add_zero] at y0
            have hfz2 := hfz (i' * 3 + 2)
            have hgj : g < jb := hsep g rfl
            have hgj2 : ¬ g = jb := by omega
            have hjg2 : ¬ jb = g := by omega
            have hyb := HBD.out y (List.mem_of_getElem? hGy.1)
            have HGY := Lib.hid hGy
            have HY := Lib.hid hy
            have hli2 : (i' : Int) < (G.length : Int) := by omega
            obtain ⟨yW, yH, yC⟩ := y
            simp only at y0 y1 y2 hyb
            clear hcell hfz hy hGy ev2
            by_cases kW : yW = xW
            · subst kW
              by_cases kH : yH = xH
              · subst kH
                have hkk : keyEq ⟨yW, yH, yC⟩ ⟨yW, yH, xC⟩ = true := by simp [keyEq]
                cases dnb
                · obtain ⟨hdG, hF2⟩ := found_hit hF.out HGY.out.1 hkk
                  subst hdG
                  have HF2 := Lib.hid hF2
                  clear hF2
                  go_wp2
                  go_quiet (fail)
                  go_wp2
                  have y2q : (World.drewN wr nq).cell? ⟨g, i' * 3 + 2, none⟩ = some (.int .i64 yC) := y2
                  have e2q : (World.drewN wr nq).cell? ⟨jb, 2, none⟩ = some (.int .i64 xC) := e2
                  have hfq : (World.drewN wr nq).frozen? ⟨g, i' * 3 + 2, none⟩ = false := hfz2
                  have haq := hacc.drewN nq
                  have hBq : Below W.heap.size W (World.drewN wr nq) := below_drewN hB nq
                  have hnq : (World.drewN wr nq).heap[jb]? = some (.cells #[.int .i64 yW, .int .i64 yH, .int .i64 xC] 25 (0, 0)) := hn0
                  generalize World.drewN wr nq = wq at y2q e2q hfq haq hBq hnq ⊢
                  go_still_tail 10, (by kernel_rfl)
                  change wpList _ _ _ _ _ (World.drew wq)
                  have y2r : (World.drew wq).cell? ⟨g, i' * 3 + 2, none⟩ = some (.int .i64 yC) := y2q
                  have hfr : (World.drew wq).frozen? ⟨g, i' * 3 + 2, none⟩ = false := hfq
                  go_wp2
                  have hput := haq.drew.put needC_len (y := more ⟨yW, yH, yC⟩ ⟨yW, yH, xC⟩) (p := i') (j := 2) (u := .int .i64 (yC + xC)) HGY.out.1 (by decide) rfl
                  have hzq := hBq.size
                  go_roundw
                  case rel =>
                    refine ⟨i' + 1, true, _, by omega, by go_num, rfl, ?_, HF2.out, ?_, ?_⟩
                    · exact hput.1
                    · exact (hput.2.block jb (heap_lt hnq) (by intro hh; injection hh; omega)).trans hnq
                    · exact hBq.drew.grown hput.2 hzq (fun q hq => by injection hq with hq; omega)
                  case measure => simp [intOf]; omega
                · have := HGY.out.2 rfl
                  rw [hkk] at this
                  cases this
              · have hkk : keyEq ⟨yW, yH, yC⟩ ⟨yW, xH, xC⟩ = false := by simp [keyEq, kH]
                have HN := Lib.hid (found_next hF.out (fun z hz => by rw [HGY.out.1] at hz; injection hz with hz; subst hz; exact hkk))
                have kH' : (yH == xH) = false := by rw [beq_eq_false_iff_ne]; exact kH
                clear hkk
                go_wp2
                go_quiet (fail)
                go_wp2
                go_roundw
                case rel => exact ⟨i' + 1, dnb, d, by omega, by go_num, rfl, hacc.drewN _, HN.out, hn0, by (repeat (first | exact Below.refl _ _ | assumption | (refine Below.drew ?_) | (refine below_drewN ?_ _) | (refine Below.alloc ?_ (by first | exact Nat.le_refl _ | (simp; done) | (simp; omega) | omega) _) | (refine Below.setCell ?_ (by first | exact Nat.le_refl _ | (simp; done) | (simp; omega) | omega) _) | (refine Below.trans ?_ (Below.mono (by assumption) (by first | exact Nat.le_refl _ | (simp; done) | (simp; omega) | omega)))))⟩
                case measure => simp [intOf]; omega
            · have hkk : keyEq ⟨yW, yH, yC⟩ ⟨xW, xH, xC⟩ = false := by simp [keyEq, kW]
              have HN := Lib.hid (found_next hF.out (fun z hz => by rw [HGY.out.1] at hz; injection hz with hz; subst hz; exact hkk))
              have kW' : (yW == xW) = false := by rw [beq_eq_false_iff_ne]; exact kW
              clear hkk
              go_wp2
              go_quiet (fail)
              go_wp2
              go_roundw
              case rel => exact ⟨i' + 1, dnb, d, by omega, by go_num, rfl, hacc.drewN _, HN.out, hn0, by (repeat (first | exact Below.refl _ _ | assumption | (refine Below.drew ?_) | (refine below_drewN ?_ _) | (refine Below.alloc ?_ (by first | exact Nat.le_refl _ | (simp; done) | (simp; omega) | omega) _) | (refine Below.setCell ?_ (by first | exact Nat.le_refl _ | (simp; done) | (simp; omega) | omega) _) | (refine Below.trans ?_ (Below.mono (by assumption) (by first | exact Nat.le_refl _ | (simp; done) | (simp; omega) | omega)))))⟩
              case measure => simp [intOf]; omega
          · have hE := found_end (Nat.le_of_not_lt hli) hF.out
            cases dnb
            · obtain ⟨hdG, hadd⟩ := hE
              subst hdG
              have HA := Lib.hid hadd
              have hld : d.length ≤ 8 := by omega
              go_wp2_with (at_builtin; refine wpList_acc1 rfl _ _ 32 rfl W.heap.size 25 (.agg #[.int .i64 0, .int .i64 0, .int .i64 0]) 3 24 Try.underlying32 infoNeed rfl (by omega) _ d needC ⟨xW, xH, xC⟩ rfl hacc _ _ rfl _ rfl (by simp) rfl (by simp [needC, Value.oneCell']) (by omega) (by omega) hz ?_; intro v' w5 hacc5 hgrow5 hat5)
              go_roundw
              case rel => exact ⟨k + 1, by omega, by go_num, by rw [HS.out, HA.out]; exact hacc5, hacc.grow_below hB hgrow5 (Nat.le_refl _) hz⟩
              case measure => simp [intOf]; omega
            · have hdG : d = addTo G ⟨xW, xH, xC⟩ := hE
              subst hdG
              go_wp2
              go_roundw
              case rel => exact ⟨k + 1, by omega, by go_num, by rw [HS.out]; exact hacc, hB⟩
              case measure => simp [intOf]; omega
      · obtain rfl : k = n := by omega
        have hxk : xs.take k = xs := List.take_of_length_le (Nat.le_of_eq HLEN.out)
        rw [hxk] at hacc hgl
        have hgl2 : (grp xs).length ≤ 1048576 := by have := HLEN.out; omega
        obtain ⟨A1, c1, rfl, hc1, hO⟩ := hacc.own needC_len
        have hR := hO.rd
        rcases h2 : needsOk (grp xs) with _ | _
        · have HG := Lib.hid (group_no2 h2)
          clear hxk hO
          go_wp2_with fail
          refine (needsOkI_any _ _ _ (grp xs) _ hR hgl2).mono ?_
          rintro e w9 ⟨rfl, hb9⟩
          rw [h2]
          go_wp2_with fail
          go_ret
          rw [HG.out]
          exact ⟨none, 0, rfl, Nat.le_refl _, Own.nil _ _ _ _ _ _, hB.trans (hb9.mono hz)⟩
        · have HG := Lib.hid (group_yes HOK.out h2)
          clear hxk
          go_wp2_with fail
          refine (needsOkI_any _ _ _ (grp xs) _ hR hgl2).mono ?_
          rintro e w9 ⟨rfl, hb9⟩
          rw [h2]
          go_wp2_with fail
          go_ret
          rw [HG.out]
          exact ⟨A1, c1, rfl, hc1, (hO.below hb9).mono (Nat.le_refl _) hb9.size, hB.trans (hb9.mono hz)⟩

/-- Where the reference's loop over what has been built stands. -/
def AtP (G : List Need) (x : Need) (i : Nat) (v : Int) : Prop :=
  (v = -1 ∧ ∀ (j : Nat) (y : Need), j < i → G[j]? = some y → keyEq y x = false) ∨ (∃ (p : Nat) (y : Need), v = p ∧ p < i ∧ G[p]? = some y ∧ keyEq y x = true)
theorem atP_next {G : List Need} {x y : Need} {i : Nat} {v : Int} (h : AtP G x i v) (hy : G[i]? = some y) (hk : keyEq y x = false) : AtP G x (i + 1) v := by
  rcases h with ⟨h1, h3⟩ | ⟨p, z, h1, hp, h4⟩
  · refine .inl ⟨h1, fun j z hj hz => ?_⟩
    by_cases e : j = i
    · subst e; rw [hy] at hz; injection hz with hz; exact hz ▸ hk
    · exact h3 j z (by omega) hz
  · exact .inr ⟨p, z, h1, by omega, h4⟩
theorem atP_hit {G : List Need} {x y : Need} {i : Nat} (hy : G[i]? = some y) (hk : keyEq y x = true) : AtP G x (i + 1) (i : Int) := .inr ⟨i, y, rfl, by omega, hy, hk⟩

set_option maxRecDepth 100000 in
set_option maxHeartbeats 2000000 in
theorem groupS_any (A : Option Addr) (n c : Nat) (xs : List Need) (W : World) (h : Rd W A n 3 xs needC) (hn : n ≤ 1048576) :
    Calls Try.prog 27 #[.slice A n c] W (Made W (groupNeeds xs).length 3 (groupNeeds xs) needC) := by
  have HLEN := Lib.hid h.len
  rcases hok : needsOk xs with _ | _
  · rw [group_no hok]
    go_enter Try.func27, Try.ntmps27
    go_wp2_with fail
    refine (needsOkS_any A n c xs _ (h.below (by (repeat (first | exact Below.refl _ _ | assumption | (refine Below.drew ?_) | (refine below_drewN ?_ _) | (refine Below.alloc ?_ (by first | exact Nat.le_refl _ | (simp; done) | (simp; omega) | omega) _) | (refine Below.setCell ?_ (by first | exact Nat.le_refl _ | (simp; done) | (simp; omega) | omega) _) | (refine Below.trans ?_ (Below.mono (by assumption) (by first | exact Nat.le_refl _ | (simp; done) | (simp; omega) | omega))))))) hn).mono ?_
    rintro e w1 ⟨rfl, hb1⟩
    rw [hok]
    have hz1 := hb1.size
    simp at hz1
    go_wp2_with fail
    go_ret
    exact ⟨_, 0, rfl, Nat.le_refl _, Own.nil _ _ _ _ _ _, by (repeat (first | exact Below.refl _ _ | assumption | (refine Below.drew ?_) | (refine below_drewN ?_ _) | (refine Below.alloc ?_ (by first | exact Nat.le_refl _ | (simp; done) | (simp; omega) | omega) _) | (refine Below.setCell ?_ (by first | exact Nat.le_refl _ | (simp; done) | (simp; omega) | omega) _) | (refine Below.trans ?_ (Below.mono (by assumption) (by first | exact Nat.le_refl _ | (simp; done) | (simp; omega) | omega)))))⟩
  · have HOK := Lib.hid hok
    have h8 := needsOk_len hok
    rw [HLEN.out] at h8
    go_enter Try.func27, Try.ntmps27
    go_wp2_with fail
    refine (needsOkS_any A n c xs _ (h.below (by (repeat (first | exact Below.refl _ _ | assumption | (refine Below.drew ?_) | (refine below_drewN ?_ _) | (refine Below.alloc ?_ (by first | exact Nat.le_refl _ | (simp; done) | (simp; omega) | omega) _) | (refine Below.setCell ?_ (by first | exact Nat.le_refl _ | (simp; done) | (simp; omega) | omega) _) | (refine Below.trans ?_ (Below.mono (by assumption) (by first | exact Nat.le_refl _ | (simp; done) | (simp; omega) | omega))))))) hn).mono ?_
    rintro e w1 ⟨rfl, hb1⟩
    rw [hok]
    have hacc0 := (Acc.lit0 W W.heap.size 25 3 needC (Nat.le_refl _) rfl).below hb1
    have hB1 : Below W.heap.size W w1 := by (repeat (first | exact Below.refl _ _ | assumption | (refine Below.drew ?_) | (refine below_drewN ?_ _) | (refine Below.alloc ?_ (by first | exact Nat.le_refl _ | (simp; done) | (simp; omega) | omega) _) | (refine Below.setCell ?_ (by first | exact Nat.le_refl _ | (simp; done) | (simp; omega) | omega) _) | (refine Below.trans ?_ (Below.mono (by assumption) (by first | exact Nat.le_refl _ | (simp; done) | (simp; omega) | omega)))))
    go_wp2_with fail
    go_loopw [3, 4] (fun o i wr => ∃ k : Nat, k ≤ n ∧ i = .int .i64 (k : Int) ∧ Acc wr W.heap.size 25 3 o (grp (xs.take k)) needC ∧ Hid (∀ x ∈ grp (xs.take k), x.Count ≤ 200) ∧ Below W.heap.size W wr) (fun _ i _ => n - (intOf i).toNat)
    case atStart => exact ⟨0, Nat.zero_le _, rfl, hacc0, (fun x hx => by simp [grp] at hx), hB1⟩
    case round =>
      obtain ⟨k, hk, rfl, hacc, hU, hB⟩ := hrel
      have hz := hB.size
      have HK := Lib.hid (grp_keys (xs.take k))
      have HBD := Lib.hid (grp_bd HOK.out k)
      have hgl := (grp_len (xs.take k)).1
      have htl : (xs.take k).length ≤ k := List.length_take_le _ _
      by_cases hlt : k < n
      · obtain ⟨b, off, x, rfl, hbW, hx, g0, g1, g2⟩ := h.need hlt hB
        have HS := Lib.hid (grp_succ hx)
        have hxb := needOk_bd (needsOk_at HOK.out hx)
        have HOV := Lib.hid (fun (i : Nat) (z : Need) (hz : (grp (xs.take (k + 1)))[i]? = some z) (hc : 200 < z.Count) => group_no2 (grp_over (l := xs) (fun x hx => (needOk_bd (needs_all HOK.out x hx)).2.2.1) hz hc))
        have HX := Lib.hid hx
        clear hx g0 g1 g2
        obtain ⟨xW, xH, xC⟩ := x
        simp only at hxb
        generalize grp (xs.take k) = G at hacc HK HBD hgl HS hU
        obtain ⟨A1, c1, rfl, hc1, hO⟩ := hacc.own needC_len
        clear hO
        go_wp2_with fail
        go_loopw [5, 6] (fun a i wr => ∃ (i' : Nat) (v : Int), i' ≤ G.length ∧ i = .int .i64 (i' : Int) ∧ a = .int .i64 v ∧ Acc wr W.heap.size 25 3 (.slice A1 G.length c1) G needC ∧ Hid (AtP G ⟨xW, xH, xC⟩ i' v) ∧ Below W.heap.size W wr) (fun _ i _ => G.length - (intOf i).toNat)
        case atStart => exact ⟨0, -1, Nat.zero_le _, rfl, rfl, hacc, .inl ⟨rfl, fun j y hj => absurd hj (by omega)⟩, hB⟩
        case round =>
          clear hacc hB hz
          obtain ⟨i', v, hi', rfl, rfl, hacc, hF, hB⟩ := hrel
          have hz := hB.size
          obtain ⟨b2, off2, x2, ee, hbW2, hx2, g0, g1, g2⟩ := h.need hlt hB
          obtain ⟨rfl, rfl⟩ : b = b2 ∧ off = off2 := by injection ee with ee; injection ee with e1 e2; exact ⟨e1, e2⟩
          rw [HX.out] at hx2
          injection hx2 with hx2
          subst hx2
          simp only at g0 g1 g2
          clear ee hbW2
          by_cases hli : i' < G.length
          · obtain ⟨y, hy⟩ : ∃ y, G[i']? = some y := ⟨_, List.getElem?_eq_getElem hli⟩
            obtain ⟨g, c2, ev, hgl2, hgw, hcell, hfz⟩ := hacc.cells_at needC_len hy
            injection ev with ev1 ev2 ev3
            subst ev1 ev3
            have y0 := hcell 0 _ rfl
            have y1 := hcell 1 _ rfl
            rw [Nat.add_zero] at y0
            have HY := Lib.hid hy
            have hli2 : (i' : Int) < (G.length : Int) := by omega
            obtain ⟨yW, yH, yC⟩ := y
            simp only at y0 y1
            clear hcell hfz hy ev2
            by_cases kW : yW = xW
            · by_cases kH : yH = xH
              · subst kW kH
                have hkk : keyEq ⟨yW, yH, yC⟩ ⟨yW, yH, xC⟩ = true := by simp [keyEq]
                have HN := Lib.hid (atP_hit HY.out hkk)
                clear hkk
                go_wp2
                go_quiet (fail)
                go_wp2
                go_roundw
                case rel => exact ⟨i' + 1, (i' : Int), by omega, by go_num, rfl, hacc.drewN _, HN.out, by (repeat (first | exact Below.refl _ _ | assumption | (refine Below.drew ?_) | (refine below_drewN ?_ _) | (refine Below.alloc ?_ (by first | exact Nat.le_refl _ | (simp; done) | (simp; omega) | omega) _) | (refine Below.setCell ?_ (by first | exact Nat.le_refl _ | (simp; done) | (simp; omega) | omega) _) | (refine Below.trans ?_ (Below.mono (by assumption) (by first | exact Nat.le_refl _ | (simp; done) | (simp; omega) | omega)))))⟩
                case measure => simp [intOf]; omega
              · subst kW
                have hkk : keyEq ⟨yW, yH, yC⟩ ⟨yW, xH, xC⟩ = false := by simp [keyEq, kH]
                have HN := Lib.hid (atP_next hF.out HY.out hkk)
                have kH' : (yH == xH) = false := by rw [beq_eq_false_iff_ne]; exact kH
                clear hkk
                go_wp2
                go_quiet (fail)
                go_wp2
                go_roundw
                case rel => exact ⟨i' + 1, v, by omega, by go_num, rfl, hacc.drewN _, HN.out, by (repeat (first | exact Below.refl _ _ | assumption | (refine Below.drew ?_) | (refine below_drewN ?_ _) | (refine Below.alloc ?_ (by first | exact Nat.le_refl _ | (simp; done) | (simp; omega) | omega) _) | (refine Below.setCell ?_ (by first | exact Nat.le_refl _ | (simp; done) | (simp; omega) | omega) _) | (refine Below.trans ?_ (Below.mono (by assumption) (by first | exact Nat.le_refl _ | (simp; done) | (simp; omega) | omega)))))⟩
                case measure => simp [intOf]; omega
            · have hkk : keyEq ⟨yW, yH, yC⟩ ⟨xW, xH, xC⟩ = false := by simp [keyEq, kW]
              have HN := Lib.hid (atP_next hF.out HY.out hkk)
              have kW' : (yW == xW) = false := by rw [beq_eq_false_iff_ne]; exact kW
              clear hkk
              go_wp2
              go_quiet (fail)
              go_wp2
              go_roundw
              case rel => exact ⟨i' + 1, v, by omega, by go_num, rfl, hacc.drewN _, HN.out, by (repeat (first | exact Below.refl _ _ | assumption | (refine Below.drew ?_) | (refine below_drewN ?_ _) | (refine Below.alloc ?_ (by first | exact Nat.le_refl _ | (simp; done) | (simp; omega) | omega) _) | (refine Below.setCell ?_ (by first | exact Nat.le_refl _ | (simp; done) | (simp; omega) | omega) _) | (refine Below.trans ?_ (Below.mono (by assumption) (by first | exact Nat.le_refl _ | (simp; done) | (simp; omega) | omega)))))⟩
              case measure => simp [intOf]; omega
          · have hE := hF.out
            rcases hE with ⟨rfl, hno⟩ | ⟨p, y, rfl, hpi, hpy, hpk⟩
            · have HA := Lib.hid (addTo_miss fun j y hy => hno j y (Nat.lt_of_lt_of_le (List.getElem?_eq_some_iff.1 hy).1 (Nat.le_of_not_lt hli)) hy)
              have hld : G.length ≤ 8 := by omega
              go_wp2_with (at_builtin; refine wpList_acc1 rfl _ _ 32 rfl W.heap.size 25 (.agg #[.int .i64 0, .int .i64 0, .int .i64 0]) 3 24 Try.underlying32 infoNeed rfl (by omega) _ G needC ⟨xW, xH, xC⟩ rfl hacc _ _ rfl _ rfl (by simp) rfl (by simp [needC, Value.oneCell']) (by omega) (by omega) hz ?_; intro v' w5 hacc5 hgrow5 hat5)
              go_roundw
              case rel => exact ⟨k + 1, by omega, by go_num, by rw [HS.out, HA.out]; exact hacc5, (fun z hz => by
                rw [HS.out, HA.out] at hz
                rcases List.mem_append.1 hz with hz | hz
                · exact hU.out z hz
                · rw [List.mem_singleton.1 hz]; exact hxb.2.2.2), hacc.grow_below hB hgrow5 (Nat.le_refl _) hz⟩
              case measure => simp [intOf]; omega
            · have hpl := (List.getElem?_eq_some_iff.1 hpy).1
              have hadd := addTo_hit hpy hpk fun j z hj hz => keys_hit HK.out hpy hpk j z (by omega) hz
              obtain ⟨g, c2, ev, hgl2, hgw, hcell, hfz⟩ := hacc.cells_at needC_len hpy
              injection ev with ev1 ev2 ev3
              subst ev1 ev3
              have y2 := hcell 2 _ rfl
              have hfz2 := hfz (p * 3 + 2)
              have hyb := HBD.out y (List.mem_of_getElem? hpy)
              have hyu := hU.out y (List.mem_of_getElem? hpy)
              have HADD := Lib.hid hadd
              have HPY := Lib.hid hpy
              have hpi2 : (p : Int) < (G.length : Int) := by omega
              obtain ⟨yW, yH, yC⟩ := y
              simp only at y2 hyb hyu
              have hbg : ¬ b = g := by omega
              have hgb : ¬ g = b := by omega
              clear hcell hfz hpy hpk hadd ev2
              go_wp2
              go_still_tail 15, (by kernel_rfl)
              change wpList _ _ _ _ _ (World.drew wr)
              have hput := hacc.drew.put needC_len (y := more ⟨yW, yH, yC⟩ ⟨xW, xH, xC⟩) (p := p) (j := 2) (u := .int .i64 (yC + xC)) HPY.out (by decide) rfl
              have y2r : (World.drew wr).cell? ⟨g, p * 3 + 2, none⟩ = some (.int .i64 yC) := y2
              have hfr : (World.drew wr).frozen? ⟨g, p * 3 + 2, none⟩ = false := hfz2
              have hB5 : Below W.heap.size W ((World.drew wr).setCell ⟨g, p * 3 + 2, none⟩ (.int .i64 (yC + xC))) := hB.drew.setCell (p := ⟨g, p * 3 + 2, none⟩) hgl2 _
              have hset : (addTo G ⟨xW, xH, xC⟩)[p]? = some (more ⟨yW, yH, yC⟩ ⟨xW, xH, xC⟩) := by rw [HADD.out, List.getElem?_set, if_pos rfl, if_pos hpl]
              have HSET := Lib.hid hset
              clear hset
              by_cases hov : 200 < yC + xC
              · have HG := Lib.hid (HOV.out p _ (by rw [HS.out]; exact HSET.out) hov)
                go_wp2
                go_ret
                rw [HG.out]
                exact ⟨_, 0, rfl, Nat.le_refl _, Own.nil _ _ _ _ _ _, by (repeat (first | exact Below.refl _ _ | assumption | (refine Below.drew ?_) | (refine below_drewN ?_ _) | (refine Below.alloc ?_ (by first | exact Nat.le_refl _ | (simp; done) | (simp; omega) | omega) _) | (refine Below.setCell ?_ (by first | exact Nat.le_refl _ | (simp; done) | (simp; omega) | omega) _) | (refine Below.trans ?_ (Below.mono (by assumption) (by first | exact Nat.le_refl _ | (simp; done) | (simp; omega) | omega)))))⟩
              · go_wp2
                go_roundw
                case rel =>
                  refine ⟨k + 1, by omega, by go_num, by rw [HS.out, HADD.out]; exact hput.1, ?_, hB5⟩
                  intro z hz
                  rw [HS.out, HADD.out] at hz
                  rcases List.mem_or_eq_of_mem_set hz with hz | hz
                  · exact hU.out z hz
                  · rw [hz]; show yC + xC ≤ 200; omega
                case measure => simp [intOf]; omega
      · obtain rfl : k = n := by omega
        have hxk : xs.take k = xs := List.take_of_length_le (Nat.le_of_eq HLEN.out)
        rw [hxk] at hacc hU
        have HG := Lib.hid (group_yes HOK.out (grp_ok HOK.out hU.out))
        clear hxk
        go_wp2
        go_ret
        rw [HG.out]
        exact hacc.made needC_len (W := W) (Nat.le_refl _) hB rfl

theorem group_len (l : List Need) : (groupNeeds l).length ≤ 8 := by
  unfold groupNeeds
  split
  · rename_i h
    rw [Bool.and_eq_true] at h
    exact needsOk_len h.2
  · simp

end Go.Proofs.Ytgobjhaodlmoaaa
