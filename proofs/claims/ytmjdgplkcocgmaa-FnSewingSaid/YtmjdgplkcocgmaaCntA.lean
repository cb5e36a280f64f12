/-
  Contracts over joins: how many orders of sewing there are.
-/
import Derived.Test.YtmjdgplkcocgmaaSewB
set_option linter.unusedVariables false
namespace Go.Proofs.Ytmjdgplkcocgmaa
open Go.RowKit

theorem sizes_zero (q : Nat) (l : List Join) : sizesOf q (l.take 0) = List.replicate q 0 := rfl
theorem sizes_bd {l : List Join} {n : Int} (h : treeOk l n = true) {k : Nat} (hk : k ≤ l.length) (i : Nat) : 0 ≤ (sizesOf n.toNat (l.take k)).getD i 0 := by
  obtain ⟨u, _, hI⟩ := tree_inv h k hk
  exact hI.low i

set_option maxHeartbeats 1000000 in
theorem countI_any (A : Option Addr) (n c : Nat) (xs : List Join) (m : Int) (W : World) (h : Rd W A n 3 xs joinC) (hn : n ≤ 1048576) :
    Calls Try.prog 63 #[.slice A n c, .int .i64 m] W fun e w' => e = .returned (.int .i64 (countOrders xs m)) ∧ Below W.heap.size W w' := by
  have HLEN := Lib.hid h.len
  rcases ht : treeOk xs m with _ | _
  · have HN := Lib.hid (count_no ht)
    go_enter Try.func63, Try.ntmps63
    go_wp2_with (go_at_call 94; refine (treeI_any _ _ _ _ _ _ h hn ).mono ?_; rintro e w1 ⟨rfl, hb1⟩; obtain ⟨hc1, hf1⟩ := bcell hb1; have hz1 := hb1.size; (try simp at hz1); (try (have hy1_W_0 : W.heap.size < w1.heap.size := (by omega))); (try (have hy1_W_1 : W.heap.size + 1 < w1.heap.size := (by omega))); (try (have hy1_W_2 : W.heap.size + 2 < w1.heap.size := (by omega))); (try (have hy1_wr_0 : wr.heap.size < w1.heap.size := (by omega))); (try (have hy1_wr_1 : wr.heap.size + 1 < w1.heap.size := (by omega))); (try (have hy1_wr_2 : wr.heap.size + 2 < w1.heap.size := (by omega))); (try (have hyb1 : b < w1.heap.size := (by omega))))
    go_ret
    exact ⟨ret_i HN.out, hb1⟩
  · have HT := Lib.hid ht
    obtain ⟨hm, hl, _, _⟩ := tree_parts ht
    rw [HLEN.out] at hl
    obtain ⟨q, rfl⟩ := Int.eq_ofNat_of_zero_le (show 0 ≤ m by omega)
    obtain rfl : q = n + 1 := by omega
    have hn11 : n ≤ 11 := by omega
    have HFIN := Lib.hid (count_divs ht)
    rw [HLEN.out, Int.toNat_natCast] at HFIN
    clear hl hm
    have hmk := mk_eq (P := Try.prog) 42 3 (.int .i64 0) 1 8 Try.underlying42 infoIntA (n + 1) (by omega) (by omega)
    rw [show ((n + 1 : Nat) : Int) = (n : Int) + 1 from by omega] at hmk ht
    go_enter Try.func63, Try.ntmps63
    go_wp2_with (go_at_call 94; refine (treeI_any _ _ _ _ _ _ h hn ).mono ?_; rintro e w1 ⟨rfl, hb1⟩; obtain ⟨hc1, hf1⟩ := bcell hb1; have hz1 := hb1.size; (try simp at hz1); (try (have hy1_W_0 : W.heap.size < w1.heap.size := (by omega))); (try (have hy1_W_1 : W.heap.size + 1 < w1.heap.size := (by omega))); (try (have hy1_W_2 : W.heap.size + 2 < w1.heap.size := (by omega))); (try (have hy1_wr_0 : wr.heap.size < w1.heap.size := (by omega))); (try (have hy1_wr_1 : wr.heap.size + 1 < w1.heap.size := (by omega))); (try (have hy1_wr_2 : wr.heap.size + 2 < w1.heap.size := (by omega))); (try (have hyb1 : b < w1.heap.size := (by omega))))
    go_region
    go_wp2
    clear hmk
    have hacc0 : Acc ((w1.alloc (.cells (madeCells #[Value.int .i64 0] (n + 1)) 3)).drew) W.heap.size 3 1 (.slice (some ⟨w1.heap.size, 0, none⟩) (n + 1) (n + 1)) (List.replicate (n + 1) (0 : Int)) intC := (Acc.ints_made w1 W.heap.size 3 (n + 1) (by unfold maxLen; omega) hz1 rfl).drew
    go_loopw [5, 6, 19] (fun o s i wr => ∃ (k : Nat), k ≤ n ∧ i = .int .i64 (k : Int) ∧ o = .int .i64 (fac k) ∧ Acc wr W.heap.size 3 1 s (sizesOf (n + 1) (xs.take k)) intC ∧ Below W.heap.size W wr) (fun _ _ i _ => n - (intOf i).toNat)
    case atStart => exact ⟨0, Nat.zero_le _, rfl, rfl, hacc0, by (repeat (first | exact Below.refl _ _ | assumption | (refine Below.drew ?_) | (refine below_drewN ?_ _) | (refine Below.alloc ?_ (by first | exact Nat.le_refl _ | (simp; done) | (simp; omega) | omega) _) | (refine Below.setCell ?_ (by first | exact Nat.le_refl _ | (simp; done) | (simp; omega) | omega) _) | (refine Below.trans ?_ (Below.mono (by assumption) (by first | exact Nat.le_refl _ | (simp; done) | (simp; omega) | omega)))))⟩
    case round =>
      obtain ⟨k, hk, rfl, rfl, hacc, hB⟩ := hrel
      have hz := hB.size
      have hkl : k ≤ xs.length := by rw [HLEN.out]; exact hk
      have hsl := sizes_take_len (n := n + 1) hkl
      have hfb := fac_bd (k := k) (by omega)
      obtain ⟨A1, c1, rfl, hc1, hO⟩ := hacc.own intC_len
      rw [hsl] at hc1 hO hacc ⊢
      by_cases hlt : k < n
      · obtain ⟨b, off, x, rfl, hbW, hx, g0, g1, g2⟩ := h.join hlt hB
        have HX := Lib.hid hx
        have hun := tree_units HT.out hx
        have hsz := size_le HT.out hx
        rw [Int.toNat_natCast] at hsz
        have hfb1 : 1 ≤ fac k * ((k : Int) + 1) ∧ fac k * ((k : Int) + 1) ≤ 39916800 := fac_bd (k := k + 1) (by omega)
        have hss := sizes_succ (n := n + 1) hx
        clear hx
        obtain ⟨up, a, b2⟩ := x
        simp only at g0 g1 g2 hun hsz
        obtain ⟨p, rfl⟩ := Int.eq_ofNat_of_zero_le hun.1.1
        obtain ⟨r, rfl⟩ := Int.eq_ofNat_of_zero_le hun.2.1
        simp only [Int.toNat_natCast] at hsz
        obtain ⟨g, T, rfl, hgl, hgw, hP⟩ := hO.2 (by omega)
        have hpd : p < n + 1 + k := by omega
        have hrd : r < n + 1 + k := by omega
        have hcp := hP.int_at hsl hpd
        have hcr := hP.int_at hsl hrd
        obtain ⟨vp, hvp⟩ : ∃ v, Hid (v = (sizesOf (n + 1) (xs.take k)).getD p 0) := ⟨_, rfl⟩
        obtain ⟨vr, hvr⟩ : ∃ v, Hid (v = (sizesOf (n + 1) (xs.take k)).getD r 0) := ⟨_, rfl⟩
        rw [← hvp.out] at hcp
        rw [← hvr.out] at hcr
        rw [← hvp.out, ← hvr.out] at hsz
        have hv1 : 0 ≤ vp ∧ vp ≤ 11 := by omega
        have hv2 : 0 ≤ vr ∧ vr ≤ 11 := by omega
        have hpi : (p : Int) < (n : Int) + 1 + (k : Int) := by omega
        have hri : (r : Int) < (n : Int) + 1 + (k : Int) := by omega
        clear hP hO hun hsz
        go_wp2_with fail
        have hn1 : (wr.alloc (.cells #[.bool up, .int .i64 p, .int .i64 r] 76)).cell? ⟨wr.heap.size, 1, none⟩ = some (.int .i64 p) := by rw [cell_of_row _ _ _ _ _ _ (heap_alloc_new wr _)]; rfl
        have hn2 : (wr.alloc (.cells #[.bool up, .int .i64 p, .int .i64 r] 76)).cell? ⟨wr.heap.size, 2, none⟩ = some (.int .i64 r) := by rw [cell_of_row _ _ _ _ _ _ (heap_alloc_new wr _)]; rfl
        have hb1 : Below wr.heap.size wr (wr.alloc (.cells #[.bool up, .int .i64 p, .int .i64 r] 76)) := (Below.refl _ _).alloc (Nat.le_refl _) _
        have hcp1 := keepcell hcp hb1
        have hcr1 := keepcell hcr hb1
        have hacc1 := hacc.below hb1
        have hB1 : Below W.heap.size W (wr.alloc (.cells #[.bool up, .int .i64 p, .int .i64 r] 76)) := by (repeat (first | exact Below.refl _ _ | assumption | (refine Below.drew ?_) | (refine below_drewN ?_ _) | (refine Below.alloc ?_ (by first | exact Nat.le_refl _ | (simp; done) | (simp; omega) | omega) _) | (refine Below.setCell ?_ (by first | exact Nat.le_refl _ | (simp; done) | (simp; omega) | omega) _) | (refine Below.trans ?_ (Below.mono (by assumption) (by first | exact Nat.le_refl _ | (simp; done) | (simp; omega) | omega)))))
        have hz1 : wr.heap.size < (wr.alloc (.cells #[.bool up, .int .i64 p, .int .i64 r] 76)).heap.size := by simp
        generalize wr.alloc (.cells #[.bool up, .int .i64 p, .int .i64 r] 76) = w1 at hn1 hn2 hcp1 hcr1 hacc1 hB1 hz1 ⊢
        clear hb1 hcp hcr hB hacc
        generalize wr.heap.size = j at hn1 hn2 hz hz1 hgw ⊢
        have hwrap := Lib.hid (show IntKind.i64.wrap (IntKind.i64.wrap (1 + vp) + vr) = 1 + vp + vr by rw [IntKind.wrap_i64, IntKind.wrap_i64]; omega)
        have hown1 : Acc ((w1.alloc (.cells #[.int .i64 (IntKind.i64.wrap (IntKind.i64.wrap (1 + vp) + vr))] 3)).drew) W.heap.size 3 1 (.slice (some ⟨g, 0, none⟩) (n + 1 + k) c1) (sizesOf (n + 1) (xs.take k)) intC := (hacc1.alloc _).drew
        have hlo1 : W.heap.size ≤ ((w1.alloc (.cells #[.int .i64 (IntKind.i64.wrap (IntKind.i64.wrap (1 + vp) + vr))] 3)).drew).heap.size := by simp [World.drew]; omega
        have hjg : some j ≠ Value.ownBlock (.slice (some ⟨g, 0, none⟩) (n + 1 + k) c1) := by simp [Value.ownBlock]; omega
        have hpl : p < (sizesOf (n + 1) (xs.take k)).length * 1 := by rw [hsl]; omega
        have hrl : r < (sizesOf (n + 1) (xs.take k)).length * 1 := by rw [hsl]; omega
        have hln1 : (sizesOf (n + 1) (xs.take k)).length + 1 ≤ 4294967296 := by rw [hsl]; omega
        go_region_held3 (fun w' => w'.cell? ⟨j, 1, none⟩ = some (.int .i64 p) ∧ w'.cell? ⟨j, 2, none⟩ = some (.int .i64 r) ∧ w'.cell? ⟨g, p, none⟩ = some (.int .i64 vp) ∧ w'.cell? ⟨g, r, none⟩ = some (.int .i64 vr)) (first | go_keep | exact ⟨cell_far rfl hgrow hn1 hjg, cell_far rfl hgrow hn2 hjg, cell_same rfl (hkeep g rfl p hpl) hcp1, cell_same rfl (hkeep g rfl r hrl) hcr1⟩) ((refine step_acc1 rfl _ _ 42 rfl W.heap.size 3 (.int .i64 0) 1 8 Try.underlying42 infoIntA rfl Nat.one_pos (.slice (some ⟨g, 0, none⟩) (n + 1 + k) c1) (sizesOf (n + 1) (xs.take k)) intC (IntKind.i64.wrap (IntKind.i64.wrap (1 + vp) + vr)) rfl hown1 _ _ _ _ (heap_alloc_new w1 _) rfl rfl rfl (fun u hu => by rw [List.mem_singleton.1 hu]; rfl) hln1 (by decide) hlo1 _ rfl ?_; intro v' w2 hacc2 hgrow hat hkeep))
        go_wp2_with fail
        go_roundw
        case rel =>
          rw [hwrap.out] at hacc2
          refine ⟨k + 1, by omega, by go_num, rfl, ?_, ?_⟩
          · rw [hss]
            unfold sizeStep
            rw [hvp.out, hvr.out] at hacc2
            exact hacc2
          · exact hown1.grow_below ((hB1.alloc (by omega) _).drew) hgrow (Nat.le_refl _) hlo1
        case measure => simp [intOf]; omega
      · obtain rfl : k = n := by omega
        obtain ⟨g, T, rfl, hgl, hgw, hP⟩ := hO.2 (by omega)
        have hxk : xs.take k = xs := List.take_of_length_le (Nat.le_of_eq HLEN.out)
        rw [hxk] at hP hsl
        have htl : (tailOf (k + 1) xs).length = k := by rw [← hxk]; exact tail_len hkl
        by_cases hk0 : k = 0
        · subst hk0
          have HF := Lib.hid (show (1 : Int) = countOrders xs ((0 + 1 : Nat) : Int) by rw [← HFIN.out, List.eq_nil_of_length_eq_zero htl]; rfl)
          clear hP hO hxk htl hsl hacc hfb
          have hf0 : fac 0 = 1 := rfl
          rw [hf0]
          go_wp2
          all_goals
            go_loop [5, 48] (fun o i => o = .int .i64 1 ∧ i = .int .i64 0) (fun _ i => 0)
            case atStart => exact ⟨rfl, rfl⟩
            case round =>
              obtain ⟨rfl, rfl⟩ := hrel
              go_wp2
              go_ret
              exact ⟨ret_i HF.out, hB⟩
        · have hc2 : k + 1 < c1 := by omega
          have HTL := Lib.hid htl
          have HPOS := Lib.hid (fun (i : Nat) (s : Int) (hs : (tailOf (k + 1) xs)[i]? = some s) => tail_all HT.out (i := i) (s := s) (by rw [Int.toNat_natCast]; exact hs))
          clear hO hxk htl hacc
          go_wp2
          go_loopw [5, 48] (fun o i wr => ∃ (i' : Nat), i' ≤ k ∧ i = .int .i64 (i' : Int) ∧ o = .int .i64 (((tailOf (k + 1) xs).take i').foldl (· / ·) (fac k)) ∧ Part wr g T (k + 1 + k) 1 (sizesOf (k + 1) xs) intC (k + 1 + k) ∧ Below W.heap.size W wr) (fun _ i _ => k - (intOf i).toNat)
          case atStart => exact ⟨0, Nat.zero_le _, rfl, rfl, hP, hB⟩
          case round =>
            clear hP hB
            obtain ⟨i', hi', rfl, rfl, hP, hB⟩ := hrel
            have hdb := divs_bd (a := fac k) (ss := tailOf (k + 1) xs) (by omega) (fun s hs => by obtain ⟨i, hi⟩ := List.getElem?_of_mem hs; exact (HPOS.out i s hi).1) i'
            by_cases hlt2 : i' < k
            · have hci := hP.int_at hsl (show k + 1 + i' < k + 1 + k by omega)
              obtain ⟨s, hs⟩ : ∃ s, (tailOf (k + 1) xs)[i']? = some s := ⟨_, List.getElem?_eq_getElem (by rw [HTL.out]; exact hlt2)⟩
              have hs1 := HPOS.out i' s hs
              have hsd : (sizesOf (k + 1) xs).getD (k + 1 + i') 0 = s := by
                unfold tailOf at hs
                rw [List.getElem?_drop] at hs
                rw [List.getD_eq_getElem?_getD, hs]; rfl
              rw [hsd] at hci
              have HS := Lib.hid (show ((tailOf (k + 1) xs).take (i' + 1)).foldl (· / ·) (fac k) = ((tailOf (k + 1) xs).take i').foldl (· / ·) (fac k) / s from foldl_take_succ' hs)
              clear hs hsd
              generalize ((tailOf (k + 1) xs).take i').foldl (· / ·) (fac k) = o at hdb HS ⊢
              have hsne : s ≠ 0 := by omega
              have hod : 0 ≤ o / s ∧ o / s ≤ o := ⟨Int.ediv_nonneg hdb.1 (by omega), Int.ediv_le_self _ hdb.1⟩
              go_wp2
              go_roundw
              case rel => exact ⟨i' + 1, by omega, by go_num, by rw [HS.out], hP, hB⟩
              case measure => simp [intOf]; omega
            · obtain rfl : i' = k := by omega
              have HF := Lib.hid (show ((tailOf (i' + 1) xs).take i').foldl (· / ·) (fac i') = countOrders xs ((i' + 1 : Nat) : Int) by rw [List.take_of_length_le (Nat.le_of_eq HTL.out)]; exact HFIN.out)
              go_wp2
              go_ret
              exact ⟨ret_i HF.out, hB⟩

end Go.Proofs.Ytmjdgplkcocgmaa
