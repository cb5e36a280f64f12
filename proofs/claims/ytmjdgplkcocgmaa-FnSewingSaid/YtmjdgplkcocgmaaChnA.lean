/-
  Contracts over joins: the rounds of sewing.
-/
import Derived.Test.YtmjdgplkcocgmaaSewB
import Derived.Test.YtmjdgplkcocgmaaZWords
set_option linter.unusedVariables false
namespace Go.Proofs.Ytmjdgplkcocgmaa
open Go.RowKit

theorem infoInts : (Try.prog.info? 42).map (fun i => (i.zero, i.size, i.bytes)) = some (some (.slice none 0 0), 1, 24) := by kernel_rfl

set_option maxRecDepth 100000 in
set_option maxHeartbeats 2000000 in
theorem chainI_any (A : Option Addr) (n c : Nat) (xs : List Join) (m : Int) (W : World) (h : Rd W A n 3 xs joinC) (hn : n ≤ 1048576) :
    Calls Try.prog 65 #[.slice A n c, .int .i64 m] W (MadeSS W (chainRounds xs m).length (chainRounds xs m) intC) := by
  have HLEN := Lib.hid h.len
  rcases ht : treeOk xs m with _ | _
  · rw [chain_no ht]
    go_enter Try.func65, Try.ntmps65
    go_wp2_with (go_at_call 94; refine (treeI_any _ _ _ _ _ _ h hn ).mono ?_; rintro e w1 ⟨rfl, hb1⟩; obtain ⟨hc1, hf1⟩ := bcell hb1; have hz1 := hb1.size; (try simp at hz1); (try (have hy1_W_0 : W.heap.size < w1.heap.size := (by omega))); (try (have hy1_W_1 : W.heap.size + 1 < w1.heap.size := (by omega))); (try (have hy1_W_2 : W.heap.size + 2 < w1.heap.size := (by omega))); (try (have hy1_wr_0 : wr.heap.size < w1.heap.size := (by omega))); (try (have hy1_wr_1 : wr.heap.size + 1 < w1.heap.size := (by omega))); (try (have hy1_wr_2 : wr.heap.size + 2 < w1.heap.size := (by omega))); (try (have hyb1 : b < w1.heap.size := (by omega))))
    go_ret
    exact (Acc.nil w1 W.heap.size 42 1 hdC).madeSS (RowsP.nil _ _ _ _) (Apart.nil _) hb1 rfl
  · have HT := Lib.hid ht
    obtain ⟨hm, hl, ⟨d, hd⟩, _⟩ := tree_parts ht
    have htk := fun (r i : Nat) (j : Join) (hj : xs[i]? = some j) => take_round ht hd (r := r) hj
    rw [chain_yes ht hd, rounds_len]
    have hmd := maxDep_bd hd xs.length (Nat.le_refl _)
    have hdl := fun r => done_len hd r
    rw [HLEN.out] at hl hmd htk hdl ⊢
    obtain ⟨q, rfl⟩ := Int.eq_ofNat_of_zero_le (show 0 ≤ m by omega)
    rw [Int.toNat_natCast] at hmd htk hdl ⊢
    have hn11 : n ≤ 11 := by omega
    have HQ := Lib.hid (show q = n + 1 by omega)
    have HTK := Lib.hid htk
    have HDL := Lib.hid hdl
    obtain ⟨R, hR⟩ : ∃ R, Hid (R = maxDep d q n) := ⟨_, rfl⟩
    rw [← hR.out] at hmd HDL ⊢
    clear hl htk hdl hd hm
    go_enter Try.func65, Try.ntmps65
    go_wp2_with (go_at_call 94; refine (treeI_any _ _ _ _ _ _ h hn ).mono ?_; rintro e w1 ⟨rfl, hb1⟩; obtain ⟨hc1, hf1⟩ := bcell hb1; have hz1 := hb1.size; (try simp at hz1); (try (have hy1_W_0 : W.heap.size < w1.heap.size := (by omega))); (try (have hy1_W_1 : W.heap.size + 1 < w1.heap.size := (by omega))); (try (have hy1_W_2 : W.heap.size + 2 < w1.heap.size := (by omega))); (try (have hy1_wr_0 : wr.heap.size < w1.heap.size := (by omega))); (try (have hy1_wr_1 : wr.heap.size + 1 < w1.heap.size := (by omega))); (try (have hy1_wr_2 : wr.heap.size + 2 < w1.heap.size := (by omega))); (try (have hyb1 : b < w1.heap.size := (by omega))))
    have hB1 : Below W.heap.size W w1 := hb1
    have hacc0 := (Acc.lit0 w1 W.heap.size 42 1 hdC hz1 rfl).alloc (.cells #[] 3)
    have haccd0 := Acc.lit0 (w1.alloc (.cells #[] 42)) W.heap.size 3 1 intC (by simp; omega) rfl
    go_loopw [5, 6] (fun o dn wr => ∃ (r : Nat) (hs : List Hd), r ≤ R ∧ Acc wr W.heap.size 42 1 o hs hdC ∧ RowsP wr W.heap.size wr.heap.size hs (rounds d q n r) intC ∧ Apart o hs ∧ Acc wr W.heap.size 3 1 dn (doneOf d q n r) intC ∧ Apart dn hs ∧ Dis o dn ∧ Below W.heap.size W wr ∧ W.heap.size ≤ wr.heap.size) (fun o _ _ => n - sliceLen o)
    case atStart => exact ⟨0, [], Nat.zero_le _, hacc0, RowsP.nil _ _ _ _, Apart.nil _, (by have e : doneOf d q n 0 = [] := rfl; rw [e]; simpa using haccd0), Apart.nil _, (by intro k hk e; simp [Value.ownBlock] at hk e; omega), by (repeat (first | exact Below.refl _ _ | assumption | (refine Below.drew ?_) | (refine below_drewN ?_ _) | (refine Below.alloc ?_ (by first | exact Nat.le_refl _ | (simp; done) | (simp; omega) | omega) _) | (refine Below.setCell ?_ (by first | exact Nat.le_refl _ | (simp; done) | (simp; omega) | omega) _) | (refine Below.trans ?_ (Below.mono (by assumption) (by first | exact Nat.le_refl _ | (simp; done) | (simp; omega) | omega))))), by simp; omega⟩
    case round =>
      obtain ⟨r, hs, hr, hacc, hrows, hap, haccd, hapd, hdis, hB, hz⟩ := hrel
      have hsl : hs.length = r := by rw [hrows.1, rounds_len]
      have hdl := HDL.out r
      have hosl := hacc.sliceLen hdC_len
      obtain ⟨A2, c2, rfl, hc2, hO2⟩ := haccd.own intC_len
      have hR2 := hO2.rd
      obtain ⟨L, hL⟩ : ∃ L, Hid (L = (doneOf d q n r).length) := ⟨_, rfl⟩
      rw [← hL.out] at hdl hc2 hR2 haccd hapd hdis ⊢
      clear hO2
      by_cases hlt : r < R
      · have hLn : L < n := hdl.2.2 hlt
        have hrl := round_len d q n r
        obtain ⟨mid, hmid⟩ : ∃ g, Hid (g = wr.heap.size) := ⟨_, rfl⟩
        have hacc0 := Acc.lit0 wr mid 3 1 intC (Nat.le_of_eq hmid.out) rfl
        have hB0 : Below mid wr (wr.alloc (.cells #[] 3)) := (Below.refl _ _).alloc (Nat.le_of_eq hmid.out) _
        have hz0 : mid ≤ (wr.alloc (.cells #[] 3)).heap.size := by rw [hmid.out]; simp
        go_wp2
        go_loopw [7, 24] (fun o i w2 => ∃ j : Nat, j ≤ n ∧ i = .int .i64 (j : Int) ∧ Acc w2 mid 3 1 o (roundAt d q j r) intC ∧ Below mid wr w2 ∧ mid ≤ w2.heap.size) (fun _ i _ => n - (intOf i).toNat)
        case atStart => exact ⟨0, Nat.zero_le _, rfl, hacc0, hB0, hz0⟩
        case round =>
          obtain ⟨j, hj, rfl, hacc2, hB2, hz2⟩ := hrel
          have hB2' := hB2
          rw [hmid.out] at hB2'
          have hBW : Below W.heap.size W wr := hB.trans (hB2'.mono hz)
          by_cases hlj : j < n
          · obtain ⟨b, off, x, rfl, hbW, hx, g0, g1, g2⟩ := h.join hlj hBW
            have HX := Lib.hid hx
            have hun := tree_units HT.out hx
            have htk := HTK.out r j x hx
            have hrj := round_len d q j r
            clear hx
            obtain ⟨up, a, b2⟩ := x
            simp only at g0 g1 g2 hun
            have hq := HQ.out
            have ha0 : 0 ≤ a := hun.1.1
            have hb0 : 0 ≤ b2 := hun.2.1
            have ha1 : a ≤ 1000 := by omega
            have hb1' : b2 ≤ 1000 := by omega
            have hq12 : (q : Int) ≤ 12 := by omega
            clear hun hq
            have hRa : Rd (wr.alloc (.cells #[.bool up, .int .i64 a, .int .i64 b2] 76)) A2 L 1 (doneOf d q n r) intC := (hR2.below hB2').below ((Below.refl _ _).alloc (Nat.le_refl _) _)
            have hacca := hacc2.alloc (.cells #[.bool up, .int .i64 a, .int .i64 b2] 76)
            have hBa : Below mid _ (wr.alloc (.cells #[.bool up, .int .i64 a, .int .i64 b2] 76)) := hB2.alloc hz2 _
            have hza : mid ≤ (wr.alloc (.cells #[.bool up, .int .i64 a, .int .i64 b2] 76)).heap.size := by simp; omega
            have HF := Lib.hid (filter_succ (d := d) (n := q) (k := j) (r := r))
            rcases hc : (doneOf d q n r).contains (j : Int) with _ | _
            · rcases hrd : ready (q : Int) (doneOf d q n r) ⟨up, a, b2⟩ with _ | _
              · rw [hc, hrd] at htk
                have HI := Lib.hid htk.symm
                clear htk
                go_wp2_with (first | (go_at_call 95; refine (indexOf_any _ _ _ (doneOf d q n r) _ _ hRa (by omega)).mono ?_; rintro e w' ⟨rr, rfl, hr1, hr2, rfl⟩; have hr3 := hr2 hc) | (go_at_call 96; refine (ready_any up a b2 _ _ _ _ (doneOf d q n r) _ hRa (by omega) ha0 ha1 hb0 hb1' (by omega) hq12).mono ?_; rintro e w3 ⟨rfl, hb3⟩; rw [hrd]; have hacc3 := hacca.below hb3; have hz3 := hb3.size; have hB3 : Below mid _ w3 := hBa.trans (hb3.mono hza)))
                go_roundw
                case rel => exact ⟨j + 1, by omega, by go_num, by rw [HF.out, HI.out]; exact hacc3, hB3, by omega⟩
                case measure => simp [intOf]; omega
              · rw [hc, hrd] at htk
                have HI := Lib.hid htk.symm
                clear htk
                go_wp2_with (first | (go_at_call 95; refine (indexOf_any _ _ _ (doneOf d q n r) _ _ hRa (by omega)).mono ?_; rintro e w' ⟨rr, rfl, hr1, hr2, rfl⟩; have hr3 := hr2 hc) | (go_at_call 96; refine (ready_any up a b2 _ _ _ _ (doneOf d q n r) _ hRa (by omega) ha0 ha1 hb0 hb1' (by omega) hq12).mono ?_; rintro e w3 ⟨rfl, hb3⟩; rw [hrd]; have hacc3 := hacca.below hb3; have hz3 := hb3.size; have hB3 : Below mid _ w3 := hBa.trans (hb3.mono hza); have hz4 : mid ≤ w3.heap.size := (by omega)) | (at_builtin; refine wpList_acc1 rfl _ _ 42 rfl mid 3 (.int .i64 0) 1 8 Try.underlying42 infoIntA rfl (by omega) _ _ intC (j : Int) rfl hacc3 _ _ rfl _ rfl (by simp) rfl (by simp [intC, Value.oneCell']) (by omega) (by omega) (by omega) ?_; intro v' w5 hacc5 hgrow5 hat5))
                go_roundw
                case rel => exact ⟨j + 1, by omega, by go_num, by rw [HF.out, HI.out]; exact hacc5, hacc3.grow_below hB3 hgrow5 (Nat.le_refl _) hz4, by have := hgrow5.size; omega⟩
                case measure => simp [intOf]; omega
            · rw [hc] at htk
              have HI := Lib.hid htk.symm
              clear htk
              go_wp2_with (go_at_call 95; refine (indexOf_any _ _ _ (doneOf d q n r) _ _ hRa (by omega)).mono ?_; rintro e w' ⟨rr, rfl, hr1, hr2, rfl⟩; have hr3 := hr1 hc)
              go_roundw
              case rel => exact ⟨j + 1, by omega, by go_num, by rw [HF.out, HI.out]; exact hacca, hBa, hza⟩
              case measure => simp [intOf]; omega
          · obtain rfl : j = n := by omega
            obtain ⟨A', c', rfl, hc', hO⟩ := hacc2.own intC_len
            obtain ⟨L', hL'⟩ : ∃ L, Hid (L = (roundAt d q j r).length) := ⟨_, rfl⟩
            have hOm := hO
            rw [← hL'.out] at hc' hO hrl hOm ⊢
            rw [hmid.out] at hO hz2
            have hrows2 := (hrows.below hB2').push (x := ⟨A', L', c'⟩) (r := roundAt d q j r) hc' hO hz hz2
            rw [← rounds_succ] at hrows2
            have hap2 : Apart _ (hs ++ [⟨A', L', c'⟩]) := hap.push (x := ⟨A', L', c'⟩) (by exact hO) (fun g hg => (hacc.row hg).2)
            have hapd2 : Apart _ (hs ++ [⟨A', L', c'⟩]) := hapd.push (x := ⟨A', L', c'⟩) (by exact hO) (fun g hg => (haccd.row hg).2)
            have hsep : Sep _ mid wr.heap.size := fun g hg => .inl (by have := (hacc.row hg).2; rw [hmid.out]; exact this)
            have hacc4 := hacc.below hB2'
            have haccd4 := haccd.below hB2'
            have hz4 := Nat.le_trans hz hz2
            clear hacc hrows haccd hB hB2 hB2' hR2
            go_wp2_with (first | (at_builtin; refine wpList_acc1 rfl _ _ 26 rfl W.heap.size 42 (.slice none 0 0) 1 24 Try.underlying26 infoInts rfl (by omega) _ _ hdC ⟨A', L', c'⟩ rfl hacc4 _ _ rfl _ rfl (by simp) rfl (by simp [hdC, Value.oneCell']) (by omega) (by omega) (by omega) ?_; intro v' w3 hacc3 hgrow hat; have hr3 := hrows2.app hgrow hap2; have haccd3 := haccd4.kept hgrow (fun g hg e => hdis g e hg); have hRr := (hOm.app hgrow hsep).rd; have hz3 := hgrow.size) | (at_builtin; refine wpList_accsI rfl _ _ 42 rfl W.heap.size 3 Try.underlying42 infoIntA _ _ (roundAt d q j r) rfl haccd3 A' L' c' rfl hRr (by rw [← hL.out]; omega) (by omega) ?_; intro v4 w4 haccd5 hgrow4 hat4))
            have hdis1 := hdis.left hat (fun k hk => by have := (haccd4.row hk).2; omega)
            go_roundw
            case rel =>
              have hB5 := hacc4.grow_below hBW hgrow (Nat.le_refl _) hz4
              exact ⟨r + 1, _, by omega, hacc3.kept hgrow4 (fun g hg => hdis1 g hg), (hr3.app hgrow4 hapd2).mono (Nat.le_refl _) (by have := hgrow4.size; omega), hap2.next hat hr3 (Nat.le_succ _), by rw [done_succ]; exact haccd5, hapd2.next hat4 hr3 hz3, hdis1.right hat4 (fun k hk => (hacc3.row hk).2), haccd3.grow_below hB5 hgrow4 (Nat.le_refl _) (by omega), by have := hgrow4.size; omega⟩
            case measure => rw [hacc3.sliceLen hdC_len, hosl, List.length_append]; simp; omega
      · obtain rfl : r = R := by omega
        have hLn : ¬ L < n := fun hh => hlt (hdl.2.1 hh)
        go_wp2
        go_ret
        exact hacc.madeSS hrows hap hB (rounds_len _ _ _ _)

end Go.Proofs.Ytmjdgplkcocgmaa
