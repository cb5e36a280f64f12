/-
  Contracts over joins: the reference's rounds of sewing.
-/
import Derived.Test.YtgdnonciobjceaaChnA
set_option linter.unusedVariables false
namespace Go.Proofs.Ytgdnonciobjceaa
open Go.RowKit

theorem take_dp {n : Nat} {l : List Join} {d : List Int} (h : depths n l = some d) {k : Nat} (hk : k < l.length) : d.take (n + k) ++ [dp d n k] = d.take (n + k + 1) := by
  have hl := (depths_bd h).1
  have hx : d[n + k]? = some (d[n + k]'(by omega)) := List.getElem?_eq_getElem _
  rw [List.take_add_one, hx]
  unfold dp
  rw [List.getD_eq_getElem?_getD, hx]
  rfl
theorem maxDep_succ (d : List Int) (n k : Nat) : maxDep d n (k + 1) = max (maxDep d n k) (dp d n k).toNat := rfl
theorem take_len {n : Nat} {l : List Join} {d : List Int} (h : depths n l = some d) {k : Nat} (hk : k ≤ l.length) : (d.take (n + k)).length = n + k := by
  have hl := (depths_bd h).1
  rw [List.length_take]
  omega

theorem Acc.hd_cell {w : World} {lo g n c : Nat} {e : TypeId} {hs : List Hd} (h : Acc w lo e 1 (.slice (some ⟨g, 0, none⟩) n c) hs hdC) {p : Nat} {x : Hd} (hx : hs[p]? = some x) :
    w.cell? ⟨g, p, none⟩ = some (.slice x.A x.n x.c) ∧ ∀ o, w.frozen? ⟨g, o, none⟩ = false := by
  obtain ⟨g', c', ev, h1, h2, h3, h4⟩ := h.cells_at hdC_len hx
  injection ev with e1 e2 e3
  injection e1 with e1
  injection e1 with e1 e4 e5
  subst e1
  exact ⟨by simpa using h3 0 _ rfl, h4⟩
theorem Acc.hd_at {w : World} {lo : Nat} {e : TypeId} {v : Value} {hs : List Hd} (h : Acc w lo e 1 v hs hdC) {p : Nat} {x : Hd} (hx : hs[p]? = some x) :
    ∃ g c, v = .slice (some ⟨g, 0, none⟩) hs.length c ∧ lo ≤ g ∧ g < w.heap.size ∧ w.cell? ⟨g, p, none⟩ = some (.slice x.A x.n x.c) ∧ ∀ o, w.frozen? ⟨g, o, none⟩ = false := by
  obtain ⟨g, c, ev, h1, h2, h3, h4⟩ := h.cells_at hdC_len hx
  exact ⟨g, c, ev, h1, h2, by simpa using h3 0 _ rfl, h4⟩

set_option maxRecDepth 100000 in
set_option maxHeartbeats 2000000 in
theorem chainS_any (A : Option Addr) (n c : Nat) (xs : List Join) (m : Int) (W : World) (h : Rd W A n 3 xs joinC) (hn : n ≤ 1048576) :
    Calls Try.prog 25 #[.slice A n c, .int .i64 m] W (MadeSS W (chainRounds xs m).length (chainRounds xs m) intC) := by
  have HLEN := Lib.hid h.len
  rcases ht : treeOk xs m with _ | _
  · rw [chain_no ht]
    go_enter Try.func25, Try.ntmps25
    go_wp2_with (go_at_call 36; refine (treeS_any _ _ _ _ _ _ (h.below (by (repeat (first | exact Below.refl _ _ | assumption | (refine Below.drew ?_) | (refine below_drewN ?_ _) | (refine Below.alloc ?_ (by first | exact Nat.le_refl _ | (simp; done) | (simp; omega) | omega) _) | (refine Below.setCell ?_ (by first | exact Nat.le_refl _ | (simp; done) | (simp; omega) | omega) _) | (refine Below.trans ?_ (Below.mono (by assumption) (by first | exact Nat.le_refl _ | (simp; done) | (simp; omega) | omega))))))) hn).mono ?_; rintro e w1 ⟨rfl, hb1⟩; have hz1 := hb1.size; (try simp at hz1))
    go_ret
    exact ((Acc.lit0 W W.heap.size 29 1 hdC (Nat.le_refl _) rfl).below hb1).madeSS (RowsP.nil _ _ _ _) (Apart.nil _) (by (repeat (first | exact Below.refl _ _ | assumption | (refine Below.drew ?_) | (refine below_drewN ?_ _) | (refine Below.alloc ?_ (by first | exact Nat.le_refl _ | (simp; done) | (simp; omega) | omega) _) | (refine Below.setCell ?_ (by first | exact Nat.le_refl _ | (simp; done) | (simp; omega) | omega) _) | (refine Below.trans ?_ (Below.mono (by assumption) (by first | exact Nat.le_refl _ | (simp; done) | (simp; omega) | omega)))))) rfl
  · have HT := Lib.hid ht
    obtain ⟨hm, hl, ⟨d, hd⟩, _⟩ := tree_parts ht
    rw [chain_yes ht hd, rounds_len]
    have hmd := maxDep_bd hd xs.length (Nat.le_refl _)
    rw [HLEN.out] at hl hmd ⊢
    obtain ⟨q, rfl⟩ := Int.eq_ofNat_of_zero_le (show 0 ≤ m by omega)
    rw [Int.toNat_natCast] at hmd hd ⊢
    have hn11 : n ≤ 11 := by omega
    have hq : q = n + 1 := by omega
    have HQ := Lib.hid hq
    have HD := Lib.hid hd
    have hq12 : q ≤ 12 := by omega
    clear hl hm hq
    have hmk := mk_eq (P := Try.prog) 29 3 (.int .i64 0) 1 8 Try.underlying29 infoIntA q (by omega) (by omega)
    go_enter Try.func25, Try.ntmps25
    go_wp2_with (go_at_call 36; refine (treeS_any _ _ _ _ _ _ (h.below (by (repeat (first | exact Below.refl _ _ | assumption | (refine Below.drew ?_) | (refine below_drewN ?_ _) | (refine Below.alloc ?_ (by first | exact Nat.le_refl _ | (simp; done) | (simp; omega) | omega) _) | (refine Below.setCell ?_ (by first | exact Nat.le_refl _ | (simp; done) | (simp; omega) | omega) _) | (refine Below.trans ?_ (Below.mono (by assumption) (by first | exact Nat.le_refl _ | (simp; done) | (simp; omega) | omega))))))) hn).mono ?_; rintro e w1 ⟨rfl, hb1⟩; have hz1 := hb1.size; (try simp at hz1))
    clear hmk
    have hB1 : Below W.heap.size W w1 := by (repeat (first | exact Below.refl _ _ | assumption | (refine Below.drew ?_) | (refine below_drewN ?_ _) | (refine Below.alloc ?_ (by first | exact Nat.le_refl _ | (simp; done) | (simp; omega) | omega) _) | (refine Below.setCell ?_ (by first | exact Nat.le_refl _ | (simp; done) | (simp; omega) | omega) _) | (refine Below.trans ?_ (Below.mono (by assumption) (by first | exact Nat.le_refl _ | (simp; done) | (simp; omega) | omega)))))
    have hacc0 := ((Acc.lit0 W W.heap.size 29 1 hdC (Nat.le_refl _) rfl).below hb1).alloc (.cells (madeCells #[Value.int .i64 0] q) 3)
    have haccd0 := Acc.ints_made w1 W.heap.size 3 q (by unfold maxLen; omega) (by omega) rfl
    have ht0 : d.take (q + 0) = List.replicate q 0 := by
      have := depths_prefix hd 0 (Nat.zero_le _)
      injection this with this
      exact this.symm
    rw [← ht0] at haccd0
    go_loopw [5, 6, 7] (fun o dn i wr => ∃ (k : Nat) (hs : List Hd), k ≤ n ∧ i = .int .i64 (k : Int) ∧ Acc wr W.heap.size 29 1 o hs hdC ∧ RowsA wr W.heap.size 3 hs (rounds d q k (maxDep d q k)) intC ∧ DisAll o hs ∧ Acc wr W.heap.size 3 1 dn (d.take (q + k)) intC ∧ DisAll dn hs ∧ Dis o dn ∧ Below W.heap.size W wr ∧ W.heap.size ≤ wr.heap.size) (fun _ _ i _ => n - (intOf i).toNat)
    case atStart => exact ⟨0, [], Nat.zero_le _, rfl, hacc0, RowsA.nil _ _ _ _, DisAll.nil _, haccd0, DisAll.nil _, (by intro k hk e; simp [Value.ownBlock] at hk e; omega), by (repeat (first | exact Below.refl _ _ | assumption | (refine Below.drew ?_) | (refine below_drewN ?_ _) | (refine Below.alloc ?_ (by first | exact Nat.le_refl _ | (simp; done) | (simp; omega) | omega) _) | (refine Below.setCell ?_ (by first | exact Nat.le_refl _ | (simp; done) | (simp; omega) | omega) _) | (refine Below.trans ?_ (Below.mono (by assumption) (by first | exact Nat.le_refl _ | (simp; done) | (simp; omega) | omega))))), by simp; omega⟩
    case round =>
      obtain ⟨k, hs, hk, rfl, hacc, hrows, hdo, haccd, hdd, hdis, hB, hz⟩ := hrel
      have hkl : k ≤ xs.length := by rw [HLEN.out]; exact hk
      by_cases hlt : k < n
      · obtain ⟨b, off, x, rfl, hbW, hx, g0, g1, g2⟩ := h.join hlt hB
        have hun := tree_units HT.out hx
        have hkx : k < xs.length := by rw [HLEN.out]; exact hlt
        have hdp := dp_eq HD.out hx
        have hdle := dp_le_max HD.out hkx
        have hpos := dp_pos HD.out hkx
        have hmk := maxDep_bd HD.out k hkl
        have hbd := (depths_bd HD.out).2
        have htl := take_len HD.out hkl
        have HTD := Lib.hid (take_dp HD.out hkx)
        clear hx
        obtain ⟨up, a, b2⟩ := x
        simp only at g0 g1 g2 hun hdp
        obtain ⟨p, rfl⟩ := Int.eq_ofNat_of_zero_le hun.1.1
        obtain ⟨r, rfl⟩ := Int.eq_ofNat_of_zero_le hun.2.1
        rw [Int.toNat_natCast, Int.toNat_natCast] at hdp
        obtain ⟨A1, c1, rfl, hc1, hO⟩ := haccd.own intC_len
        rw [htl] at hc1 hO haccd hdd hdis ⊢
        obtain ⟨g, T, rfl, hgl, hgw, hP⟩ := hO.2 (by omega)
        have hcp := hP.int_at htl (show p < q + k by omega)
        have hcr := hP.int_at htl (show r < q + k by omega)
        rw [getD_take (show p < q + k by omega)] at hcp
        rw [getD_take (show r < q + k by omega)] at hcr
        have hvp := hbd p
        have hvr := hbd r
        rw [HLEN.out] at hvp hvr
        obtain ⟨vp, hp⟩ : ∃ v, Hid (v = d.getD p 0) := ⟨_, rfl⟩
        obtain ⟨vr, hrr⟩ : ∃ v, Hid (v = d.getD r 0) := ⟨_, rfl⟩
        rw [← hp.out] at hcp hdp hvp
        rw [← hrr.out] at hcr hdp hvr
        obtain ⟨e, he⟩ : ∃ e : Nat, dp d q k = (e : Int) + 1 := ⟨(dp d q k - 1).toNat, by omega⟩
        have HE := Lib.hid he
        have hel : e ≤ maxDep d q k := by omega
        have hmx : (if vp < vr then vr else vp) = (e : Int) := by rw [hdp] at he; split <;> omega
        have hv1 : 0 ≤ vp ∧ vp ≤ 11 := by omega
        have hv2 : 0 ≤ vr ∧ vr ≤ 11 := by omega
        have hpi : (p : Int) < (q : Int) + (k : Int) := by omega
        have hri : (r : Int) < (q : Int) + (k : Int) := by omega
        have HMS := Lib.hid (maxDep_succ d q k)
        have hmn : maxDep d q k ≤ 11 := by omega
        clear hP hO hun hvp hvr hbd hdp hpos hdle ht0
        clear he
        go_wp2
        go_quiet (fail)
        clear hmx
        go_wp2_with (at_builtin; refine wpList_acc1 rfl _ _ 29 rfl W.heap.size 3 (.int .i64 0) 1 8 Try.underlying29 infoIntA rfl (by omega) _ _ intC (1 + (e : Int)) rfl (haccd.drewN _) _ _ rfl _ rfl (by simp) rfl (by simp [intC, Value.oneCell']) (by rw [htl]; omega) (by omega) hz ?_; intro v1 w5 haccd5 hgrow5 hat5)
        rw [show ([1 + (e : Int)] : List Int) = [dp d q k] from by rw [HE.out, Int.add_comm], HTD.out] at haccd5
        have hacc5 := (hacc.drewN nq).kept hgrow5 (fun g hg e => hdis g hg e)
        have hrows5 := RowsA.kept (w := World.drewN wr nq) hrows hgrow5 hdd
        have hdd5 : DisAll v1 hs := hdd.next hat5 (fun i x hx k' hk' => by have := hrows.lt hx k' hk'; show k' < wr.heap.size + 1; omega)
        have hdis5 : Dis _ v1 := hdis.right hat5 (fun k' hk' => by have := (hacc.row hk').2; show k' < wr.heap.size + 1; omega)
        have hB5 := (haccd.drewN nq).grow_below (below_drewN hB nq) hgrow5 (Nat.le_refl _) hz
        have hz5 : W.heap.size ≤ w5.heap.size := Nat.le_trans hz hgrow5.size
        clear hacc hrows haccd hdd hdis hB hgrow5 hat5 hcp hcr g0 g1 g2
        go_loopw [5] (fun o w2 => ∃ (R : Nat) (hs : List Hd), maxDep d q k ≤ R ∧ R ≤ max (maxDep d q k) (e + 1) ∧ Acc w2 W.heap.size 29 1 o hs hdC ∧ RowsA w2 W.heap.size 3 hs (rounds d q k R) intC ∧ DisAll o hs ∧ Acc w2 W.heap.size 3 1 v1 (d.take (q + k + 1)) intC ∧ DisAll v1 hs ∧ Dis o v1 ∧ Below W.heap.size W w2 ∧ W.heap.size ≤ w2.heap.size) (fun o _ => 20 - sliceLen o)
        case atStart => exact ⟨_, hs, Nat.le_refl _, Nat.le_max_left _ _, hacc5, hrows5, hdo, haccd5, hdd5, hdis5, hB5, hz5⟩
        case round =>
          clear hacc5 hrows5 hdo haccd5 hdd5 hdis5 hB5 hz5 hz
          obtain ⟨R, hs, hR1, hR2, hacc, hrows, hdo, haccd, hdd, hdis, hB, hz⟩ := hrel
          have hsl : hs.length = R := by rw [hrows.1, rounds_len]
          have hosl := hacc.sliceLen hdC_len
          by_cases hRe : R < e + 1
          · have hacca := hacc.alloc (.cells #[] 3)
            have haccda := haccd.alloc (.cells #[] 3)
            have hza : W.heap.size ≤ (wr.alloc (.cells #[] 3)).heap.size := by simp; omega
            have hBa : Below W.heap.size W (wr.alloc (.cells #[] 3)) := by (repeat (first | exact Below.refl _ _ | assumption | (refine Below.drew ?_) | (refine below_drewN ?_ _) | (refine Below.alloc ?_ (by first | exact Nat.le_refl _ | (simp; done) | (simp; omega) | omega) _) | (refine Below.setCell ?_ (by first | exact Nat.le_refl _ | (simp; done) | (simp; omega) | omega) _) | (refine Below.trans ?_ (Below.mono (by assumption) (by first | exact Nat.le_refl _ | (simp; done) | (simp; omega) | omega)))))
            have hnew : Acc (wr.alloc (.cells #[] 3)) W.heap.size 3 1 (hdV ⟨some ⟨wr.heap.size, 0, none⟩, 0, 0⟩) ([] : List Int) intC := Acc.lit0 wr W.heap.size 3 1 intC hz rfl
            have hrows2 := (hrows.below ((Below.refl _ _).alloc (Nat.le_refl _) (.cells #[] 3))).push (x := ⟨some ⟨wr.heap.size, 0, none⟩, 0, 0⟩) (r := []) rfl hnew (fun i x hx => (Dis.new (hrows.lt hx) rfl).symm)
            rw [← rounds_pad hR1] at hrows2
            have hdo2 : DisAll _ (hs ++ [⟨some ⟨wr.heap.size, 0, none⟩, 0, 0⟩]) := hdo.push (Dis.new (fun k' hk' => (hacc.row hk').2) rfl)
            have hdd2 : DisAll _ (hs ++ [⟨some ⟨wr.heap.size, 0, none⟩, 0, 0⟩]) := hdd.push (Dis.new (fun k' hk' => (haccd.row hk').2) rfl)
            obtain ⟨Ao, co, rfl, hco, hOo⟩ := hacc.own hdC_len
            rw [hsl] at hacca hdo2 hdis hosl ⊢
            clear hOo
            go_wp2_with (at_builtin; refine wpList_acc1 rfl _ _ 36 rfl W.heap.size 29 (.slice none 0 0) 1 24 Try.underlying36 infoInts rfl (by omega) _ _ hdC ⟨some ⟨wr.heap.size, 0, none⟩, 0, 0⟩ rfl hacca _ _ rfl _ rfl (by simp) rfl (by simp [hdC, Value.oneCell']) (by omega) (by omega) hza ?_; intro v6 w6 hacc6 hgrow6 hat6)
            go_roundw
            case rel => exact ⟨R + 1, _, by omega, by omega, hacc6, hrows2.kept hgrow6 hdo2, hdo2.next hat6 (fun i x hx k' hk' => by have := hrows2.lt hx k' hk'; omega), haccda.kept hgrow6 (fun g' hg' e' => hdis g' e' hg'), hdd2, hdis.left hat6 (fun k' hk' => by have := (haccda.row hk').2; omega), hacca.grow_below hBa hgrow6 (Nat.le_refl _) hza, Nat.le_trans hza hgrow6.size⟩
            case measure => rw [hacc6.sliceLen hdC_len, List.length_append, hsl]; simp [sliceLen]; omega
          · have hReq : R = maxDep d q (k + 1) := by rw [HMS.out, HE.out]; omega
            have HREQ := Lib.hid hReq
            clear hReq
            obtain ⟨x, hx⟩ : ∃ x, hs[e]? = some x := ⟨_, List.getElem?_eq_getElem (by omega)⟩
            obtain ⟨row, hrow, hxn, hax⟩ := hrows.row hx
            rw [rounds_at (by omega)] at hrow
            injection hrow with hrow
            subst hrow
            have hrl := round_len d q k e
            obtain ⟨g', c', rfl, hgl', hgw', y0, f0⟩ := hacc.hd_at hx
            obtain ⟨A3, n3, c3⟩ := x
            simp only at hxn
            subst hxn
            have HXE := Lib.hid hx
            have hdx : Dis (.slice (some ⟨g', 0, none⟩) hs.length c') (.slice A3 (roundAt d q k e).length c3) := hdo e _ hx
            have hdvx : Dis v1 (.slice A3 (roundAt d q k e).length c3) := hdd e _ hx
            have hRe' : (e : Int) < (hs.length : Int) := by omega
            have hRe2 : ¬ (hs.length : Int) < 1 + (e : Int) := by omega
            have hln : (roundAt d q k e).length + 1 ≤ 4294967296 := by omega
            have hsl11 : hs.length ≤ 100 := by omega
            clear hx hsl hosl
            go_wp2_with (at_builtin; refine wpList_acc1 rfl _ _ 29 rfl W.heap.size 3 (.int .i64 0) 1 8 Try.underlying29 infoIntA rfl (by omega) _ _ intC (k : Int) rfl hax _ _ rfl _ rfl (by simp) rfl (by simp [intC, Value.oneCell']) hln (by omega) hz ?_; intro v7 w7 hacc7 hgrow7 hat7; have hacco7 := hacc.kept hgrow7 (fun g hg e' => hdx g hg e'); obtain ⟨A4, c4, rfl, hc4, hO4⟩ := hacc7.own intC_len; have y7 := (hacco7.hd_cell HXE.out).1; have f7 := (hacco7.hd_cell HXE.out).2 e; clear hO4)
            rw [List.length_append, List.length_singleton] at hacc7 hat7
            have hput := hacco7.put hdC_len (y := ⟨A4, (roundAt d q k e).length + 1, c4⟩) (p := e) (j := 0) (u := .slice A4 ((roundAt d q k e).length + 1) c4) HXE.out (by decide) rfl
            simp only [Nat.mul_one, Nat.add_zero] at hput
            have hrows7 := hrows.set (x' := ⟨A4, (roundAt d q k e).length + 1, c4⟩) (r' := roundAt d q k e ++ [(k : Int)]) HXE.out hgrow7 (by simp) hacc7 hat7 (Nat.le_succ _)
            rw [rounds_put HE.out (by omega), HREQ.out] at hrows7
            have hdo7 : DisAll (.slice (some ⟨g', 0, none⟩) hs.length c') (hs.set e ⟨A4, (roundAt d q k e).length + 1, c4⟩) := hdo.set (hdx.right hat7 (fun k' hk' => by have := (hacc.row hk').2; omega))
            have hdd7 : DisAll v1 (hs.set e ⟨A4, (roundAt d q k e).length + 1, c4⟩) := hdd.set (hdvx.right hat7 (fun k' hk' => by have := (haccd.row hk').2; omega))
            have hB7 := hax.grow_below hB hgrow7 (Nat.le_refl _) hz
            have hz7 : W.heap.size ≤ w7.heap.size := Nat.le_trans hz hgrow7.size
            have haccd7 := haccd.kept hgrow7 (fun g hg e' => hdvx g hg e')
            go_roundw
            case rel =>
              refine ⟨k + 1, _, by omega, by go_num, ?_, RowsA.kept (v := .slice (some ⟨g', 0, none⟩) hs.length c') hrows7 hput.2 hdo7, ?_, haccd7.kept hput.2 (fun g hg e' => hdis g e' hg), hdd7, hdis, hB7.grown hput.2 hz7 (fun q hq => by injection hq with hq; omega), Nat.le_trans hz7 hput.2.size⟩
              · exact hput.1
              · exact hdo7
            case measure => simp [intOf]; omega
      · obtain rfl : k = n := by omega
        go_wp2
        go_ret
        exact hacc.madeSS (hrows.rowsP intC_len) hdo.apart hB (rounds_len _ _ _ _)

end Go.Proofs.Ytgdnonciobjceaa
