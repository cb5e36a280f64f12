/-
  Contracts over orders: is an order of sewing one.
-/
import Derived.Test.YtmjdgplkcocgmaaOrdA
import Derived.Test.YtmjdgplkcocgmaaZWords
set_option linter.unusedVariables false
namespace Go.Proofs.Ytmjdgplkcocgmaa
open Go.RowKit

theorem Rd.take {α : Type} {w : World} {A : Option Addr} {n sz : Nat} {xs : List α} {cells : α → List Value} (h : Rd w A n sz xs cells) {i : Nat} (hi : i ≤ n) : Rd w A i sz (xs.take i) cells := by
  refine ⟨by rw [List.length_take, h.len, Nat.min_eq_left hi], fun hp => ?_⟩
  obtain ⟨b, off, e, hlt, hc⟩ := h.2 (by omega)
  refine ⟨b, off, e, hlt, fun j x q u hx hu => hc j x q u ?_ hu⟩
  rw [List.getElem?_take] at hx
  split at hx
  · exact hx
  · cases hx

theorem good_bad1 {l : List Join} {n : Int} {o : List Int} {i : Nat} (h : within (o.getD i 0) 0 ((l.length : Int) - 1) = false) : goodAt l n o i = false := by
  unfold goodAt
  rw [h]; rfl
theorem good_bad2 {l : List Join} {n : Int} {o : List Int} {i : Nat} (h : (o.take i).contains (o.getD i 0) = true) : goodAt l n o i = false := by
  unfold goodAt
  rw [h]; simp
theorem good_bad3 {l : List Join} {n : Int} {o : List Int} {i : Nat} (h : ready n (o.take i) (joinAt l (o.getD i 0)) = false) : goodAt l n o i = false := by
  unfold goodAt
  rw [h]; simp
theorem good_yes {l : List Join} {n : Int} {o : List Int} {i : Nat} (h1 : within (o.getD i 0) 0 ((l.length : Int) - 1) = true) (h2 : (o.take i).contains (o.getD i 0) = false) (h3 : ready n (o.take i) (joinAt l (o.getD i 0)) = true) : goodAt l n o i = true := by
  unfold goodAt
  rw [h1, h2, h3]; rfl

set_option maxHeartbeats 1000000 in
theorem orderI_any (A : Option Addr) (n c : Nat) (xs : List Join) (m : Int) (A2 : Option Addr) (n2 c2 : Nat) (os : List Int) (W : World) (h : Rd W A n 3 xs joinC) (hn : n ≤ 1048576) (ho : Rd W A2 n2 1 os intC) (hn2 : n2 ≤ 1048576) (hk2 : n2 ≤ c2) :
    Calls Try.prog 66 #[.slice A n c, .int .i64 m, .slice A2 n2 c2] W fun e w' => e = .returned (.bool (isOrder xs m os)) ∧ Below W.heap.size W w' := by
  have HLEN := Lib.hid h.len
  have HLO := Lib.hid ho.len
  rcases ht : treeOk xs m with _ | _
  · have HN := Lib.hid (order_tree (o := os) ht)
    go_enter Try.func66, Try.ntmps66
    go_wp2_with (go_at_call 94; refine (treeI_any _ _ _ _ _ _ h hn ).mono ?_; rintro e w1 ⟨rfl, hb1⟩; obtain ⟨hc1, hf1⟩ := bcell hb1; have hz1 := hb1.size; (try simp at hz1); (try (have hy1_W_0 : W.heap.size < w1.heap.size := (by omega))); (try (have hy1_W_1 : W.heap.size + 1 < w1.heap.size := (by omega))); (try (have hy1_W_2 : W.heap.size + 2 < w1.heap.size := (by omega))); (try (have hy1_wr_0 : wr.heap.size < w1.heap.size := (by omega))); (try (have hy1_wr_1 : wr.heap.size + 1 < w1.heap.size := (by omega))); (try (have hy1_wr_2 : wr.heap.size + 2 < w1.heap.size := (by omega))); (try (have hyb1 : b < w1.heap.size := (by omega))))
    go_ret
    exact ⟨ret_b HN.out, hb1⟩
  · by_cases hl2 : n2 = n
    · subst hl2
      rcases hst : strictL (sortI os) 0 ((n2 : Int) - 1) with _ | _
      · have HN := Lib.hid (strict_bad (l := xs) (n := m) (o := os) (by rw [HLEN.out]) hst)
        obtain ⟨hm, hl, _, _⟩ := tree_parts ht
        clear hm hl
        go_enter Try.func66, Try.ntmps66
        go_wp2_with (first | (go_at_call 94; refine (treeI_any _ _ _ _ _ _ h hn ).mono ?_; rintro e w1 ⟨rfl, hb1⟩; obtain ⟨hc1, hf1⟩ := bcell hb1; have hz1 := hb1.size; (try simp at hz1); (try (have hy1_W_0 : W.heap.size < w1.heap.size := (by omega))); (try (have hy1_W_1 : W.heap.size + 1 < w1.heap.size := (by omega))); (try (have hy1_W_2 : W.heap.size + 2 < w1.heap.size := (by omega))); (try (have hy1_wr_0 : wr.heap.size < w1.heap.size := (by omega))); (try (have hy1_wr_1 : wr.heap.size + 1 < w1.heap.size := (by omega))); (try (have hy1_wr_2 : wr.heap.size + 2 < w1.heap.size := (by omega))); (try (have hyb1 : b < w1.heap.size := (by omega)))) | (go_at_call 98; refine (sorted_any _ _ _ os _ (ho.below hb1) hn2).mono ?_; rintro e w2 ⟨A3, c3, rfl, hc3, hR3, hb2⟩) | (go_at_call 97; refine (isStrict_any _ _ _ (sortI os) _ _ _ hR3 hn2).mono ?_; rintro e w3 ⟨rfl, hb3⟩; rw [hst]))
        go_ret
        exact ⟨ret_b HN.out, (hb1.trans (hb2.mono hz1)).trans (hb3.mono (Nat.le_trans hz1 hb2.size))⟩
      · have HT := Lib.hid ht
        have HST := Lib.hid hst
        obtain ⟨hm, hl, _, _⟩ := tree_parts ht
        rw [HLEN.out] at hl
        have hn11 : n2 ≤ 11 := by omega
        have hm1 : m ≤ 12 := hm.2
        have hm0 : 0 ≤ m := by omega
        have HM := Lib.hid hl
        clear hl hm
        go_enter Try.func66, Try.ntmps66
        go_wp2_with (first | (go_at_call 94; refine (treeI_any _ _ _ _ _ _ h hn ).mono ?_; rintro e w1 ⟨rfl, hb1⟩; obtain ⟨hc1, hf1⟩ := bcell hb1; have hz1 := hb1.size; (try simp at hz1); (try (have hy1_W_0 : W.heap.size < w1.heap.size := (by omega))); (try (have hy1_W_1 : W.heap.size + 1 < w1.heap.size := (by omega))); (try (have hy1_W_2 : W.heap.size + 2 < w1.heap.size := (by omega))); (try (have hy1_wr_0 : wr.heap.size < w1.heap.size := (by omega))); (try (have hy1_wr_1 : wr.heap.size + 1 < w1.heap.size := (by omega))); (try (have hy1_wr_2 : wr.heap.size + 2 < w1.heap.size := (by omega))); (try (have hyb1 : b < w1.heap.size := (by omega)))) | (go_at_call 98; refine (sorted_any _ _ _ os _ (ho.below hb1) hn2).mono ?_; rintro e w2 ⟨A3, c3, rfl, hc3, hR3, hb2⟩) | (go_at_call 97; refine (isStrict_any _ _ _ (sortI os) _ _ _ hR3 hn2).mono ?_; rintro e w3 ⟨rfl, hb3⟩; rw [hst]))
        have hB3 : Below W.heap.size W w3 := (hb1.trans (hb2.mono hz1)).trans (hb3.mono (Nat.le_trans hz1 hb2.size))
        clear hst ht
        go_loopw [31] (fun i wr => ∃ k : Nat, k ≤ n2 ∧ i = .int .i64 k ∧ Below W.heap.size W wr ∧ Hid (∀ j, j < k → goodAt xs m os j = true)) (fun i _ => n2 - (intOf i).toNat)
        case atStart => exact ⟨0, Nat.zero_le _, rfl, hB3, fun j hj => absurd hj (by omega)⟩
        case round =>
          obtain ⟨k, hk, rfl, hB, hall⟩ := hrel
          have hz := hB.size
          by_cases hlt : k < n2
          · obtain ⟨b', off', x, rfl, hbW', hx, hc⟩ := ho.int hlt hB
            have hxd : os.getD k 0 = x := by rw [List.getD_eq_getElem?_getD, hx]; rfl
            have hkl : k < os.length := by rw [HLO.out]; exact hlt
            obtain ⟨hw, hgd⟩ := strict_good (l := xs) (n := m) (o := os) (by rw [HLEN.out]) HST.out hkl
            rw [hxd] at hw hgd
            rw [HLEN.out] at hw
            have hw' := within_iff.1 hw
            obtain ⟨p, rfl⟩ := Int.eq_ofNat_of_zero_le hw'.1
            have hpn : p < n2 := by omega
            obtain ⟨b, off, y, rfl, hbW, hy, g0, g1, g2⟩ := h.join hpn hB
            have hja : joinAt xs (p : Int) = y := by unfold joinAt; rw [Int.toNat_natCast, List.getD_eq_getElem?_getD, hy]; rfl
            rw [hja] at hgd
            have hun := tree_units HT.out hy
            have hl2 := HM.out
            obtain ⟨up, a, b2⟩ := y
            simp only at g0 g1 g2 hun
            have ha0 : 0 ≤ a := hun.1.1
            have hb0 : 0 ≤ b2 := hun.2.1
            have ha1 : a ≤ 1000 := by omega
            have hb1' : b2 ≤ 1000 := by omega
            have HG := Lib.hid hgd
            have HKL := Lib.hid hkl
            have hRt : Rd (World.drew wr) (some ⟨b', off', none⟩) k 1 (os.take k) intC := (ho.below hB.drew).take hk
            have hkb : k ≤ 1048576 := by omega
            have hkc : k ≤ c2 := by omega
            clear hx hxd hw hgd hw' hja hy hun hl2 hkl
            rcases hr : ready m (os.take k) ⟨up, a, b2⟩ with _ | _
            · have HN := Lib.hid (HG.out.trans hr)
              go_wp2
              go_region_held3 (fun w' => w'.cell? ⟨b', off' + k, none⟩ = some (.int .i64 p) ∧ w'.cell? ⟨b, off + p * 3, none⟩ = some (.bool up) ∧ w'.cell? ⟨b, off + p * 3 + 1, none⟩ = some (.int .i64 a) ∧ w'.cell? ⟨b, off + p * 3 + 2, none⟩ = some (.int .i64 b2)) (first | go_keep | exact ⟨keepcell (w := World.drew wr) hc hb4, keepcell (w := World.drew wr) g0 hb4, keepcell (w := World.drew wr) g1 hb4, keepcell (w := World.drew wr) g2 hb4⟩) ((go_at_call 96; refine (ready_any up a b2 m _ k c2 (os.take k) (World.drew wr) hRt hkb ha0 ha1 hb0 hb1' hm0 hm1).mono ?_; rintro e w4 ⟨rfl, hb4⟩; rw [hr]))
              have hB4 : Below W.heap.size W w4 := hB.drew.trans (hb4.mono hz)
              go_wp2_with fail
              go_ret
              exact ⟨ret_b (order_bad HKL.out HN.out), hB4⟩
            · have HN := Lib.hid (HG.out.trans hr)
              go_wp2
              go_region_held3 (fun w' => w'.cell? ⟨b', off' + k, none⟩ = some (.int .i64 p) ∧ w'.cell? ⟨b, off + p * 3, none⟩ = some (.bool up) ∧ w'.cell? ⟨b, off + p * 3 + 1, none⟩ = some (.int .i64 a) ∧ w'.cell? ⟨b, off + p * 3 + 2, none⟩ = some (.int .i64 b2)) (first | go_keep | exact ⟨keepcell (w := World.drew wr) hc hb4, keepcell (w := World.drew wr) g0 hb4, keepcell (w := World.drew wr) g1 hb4, keepcell (w := World.drew wr) g2 hb4⟩) ((go_at_call 96; refine (ready_any up a b2 m _ k c2 (os.take k) (World.drew wr) hRt hkb ha0 ha1 hb0 hb1' hm0 hm1).mono ?_; rintro e w4 ⟨rfl, hb4⟩; rw [hr]))
              have hB4 : Below W.heap.size W w4 := hB.drew.trans (hb4.mono hz)
              go_wp2_with fail
              go_roundw
              case rel => exact ⟨k + 1, by omega, by go_num, hB4, fun j hj => by
                by_cases e : j = k
                · rw [e]; exact HN.out
                · exact hall.out j (by omega)⟩
              case measure => simp [intOf]; omega
          · obtain rfl : k = n2 := by omega
            go_wp2
            go_ret
            exact ⟨ret_b (order_end HT.out (by rw [HLEN.out, HLO.out]) fun j hj => hall.out j (by rw [HLO.out] at hj; exact hj)), hB⟩
    · have hne : ((n2 : Int) == (n : Int)) = false := by rw [beq_eq_false_iff_ne]; omega
      have HN := Lib.hid (order_len (l := xs) (n := m) (o := os) (by rw [HLEN.out, HLO.out]; exact hl2))
      have hne2 : ¬ (n2 : Int) = (n : Int) := by omega
      go_enter Try.func66, Try.ntmps66
      go_wp2_with (go_at_call 94; refine (treeI_any _ _ _ _ _ _ h hn ).mono ?_; rintro e w1 ⟨rfl, hb1⟩; obtain ⟨hc1, hf1⟩ := bcell hb1; have hz1 := hb1.size; (try simp at hz1); (try (have hy1_W_0 : W.heap.size < w1.heap.size := (by omega))); (try (have hy1_W_1 : W.heap.size + 1 < w1.heap.size := (by omega))); (try (have hy1_W_2 : W.heap.size + 2 < w1.heap.size := (by omega))); (try (have hy1_wr_0 : wr.heap.size < w1.heap.size := (by omega))); (try (have hy1_wr_1 : wr.heap.size + 1 < w1.heap.size := (by omega))); (try (have hy1_wr_2 : wr.heap.size + 2 < w1.heap.size := (by omega))); (try (have hyb1 : b < w1.heap.size := (by omega))))
      go_ret
      exact ⟨ret_b HN.out, hb1⟩

/-- Unit i is made, behind k joins of the order. -/
def madeP (q : Nat) (os : List Int) (k i : Nat) : Bool := decide (i < q) || (os.take k).contains ((i : Int) - (q : Int))
theorem madeP_ready {q : Nat} {os : List Int} {k u : Nat} : madeP q os k u = readyU (q : Int) (os.take k) (u : Int) := by
  unfold madeP readyU
  congr 1
  rw [decide_eq_decide]
  omega
theorem madeP_new {q : Nat} {os : List Int} {k p : Nat} : madeP q os k (q + p) = (os.take k).contains (p : Int) := by
  unfold madeP
  rw [decide_eq_false (by omega), Bool.false_or]
  congr 1
  omega
theorem madeP_succ {q : Nat} {os : List Int} {k p : Nat} (hp : os[k]? = some (p : Int)) (i : Nat) : madeP q os (k + 1) i = (decide (i = q + p) || madeP q os k i) := by
  unfold madeP
  rw [List.take_add_one, hp]
  rw [Bool.eq_iff_iff]
  simp only [Bool.or_eq_true, decide_eq_true_iff, List.contains_iff_mem, List.mem_append, Option.toList_some, List.mem_singleton]
  constructor
  · rintro (h | h | h)
    · exact .inr (.inl h)
    · exact .inr (.inr h)
    · exact .inl (by omega)
  · rintro (h | h | h)
    · exact .inr (.inr (by omega))
    · exact .inl h
    · exact .inr (.inl h)
theorem getD_set1 {d : List Bool} {a : Nat} (ha : a < d.length) (i : Nat) : (d.set a true).getD i false = (decide (i = a) || d.getD i false) := by
  simp only [List.getD_eq_getElem?_getD, List.getElem?_set]
  by_cases e : a = i
  · subst e; rw [if_pos rfl, if_pos ha]; simp
  · rw [if_neg e]; simp [Ne.symm e]

end Go.Proofs.Ytmjdgplkcocgmaa
