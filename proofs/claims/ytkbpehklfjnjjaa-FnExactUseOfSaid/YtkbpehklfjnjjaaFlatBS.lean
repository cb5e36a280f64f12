/-
  Lists of blocks: how the law file counts, copies and compares them.
-/
import Derived.Test.YtkbpehklfjnjjaaFlatBlock
import Derived.Test.YtkbpehklfjnjjaaBS
set_option linter.unusedVariables false
namespace Go.Proofs.Ytkbpehklfjnjjaa
open Go.RowKit

theorem snd_at {rows : List Blk} {k : Nat} {s : Int} {cs : List Cell} (h : rows[k]? = some (s, cs)) : (rows.map Prod.snd)[k]? = some cs := by rw [List.getElem?_map, h]; rfl

set_option maxRecDepth 100000 in
theorem szBlockS_any (A : Option Addr) (n c : Nat) (rows : List Blk) (l : Int) (W : World) (h : RdB W A n rows) (hl : -1 ≤ l) (hl2 : l ≤ 1048576) (hn : n ≤ 9223372036854775807) (hr : ∀ r ∈ rows, r.2.length ≤ 9223372036854775807) :
    Calls Try.prog 32 #[.slice A n c, .int .i64 l] W fun e w' => e = .returned (.int .i64 (szLeftSS l (rows.map Prod.snd))) ∧ Below W.heap.size W w' := by
  have hlen := h.len
  by_cases hd : l - (n : Int) < 0
  · have hX := Lib.hid (show -1 = szLeftSS l (rows.map Prod.snd) by unfold szLeftSS; rw [if_pos (by rw [List.length_map]; omega)])
    clear hlen
    go_enter Try.func32, Try.ntmps32
    go_wp2
    go_ret
    exact ⟨ret_i hX.out, by (repeat (first | exact Below.refl _ _ | assumption | (refine Below.drew ?_) | (refine below_drewN ?_ _) | (refine Below.alloc ?_ (by first | exact Nat.le_refl _ | (simp; done) | (simp; omega) | omega) _) | (refine Below.setCell ?_ (by first | exact Nat.le_refl _ | (simp; done) | (simp; omega) | omega) _) | (refine Below.trans ?_ (Below.mono (by assumption) (by first | exact Nat.le_refl _ | (simp; done) | (simp; omega) | omega)))))⟩
  · have HL := Lib.hid hlen
    clear hlen
    go_enter Try.func32, Try.ntmps32
    go_wp2
    go_loopw [1, 5] (fun s i wr => ∃ k : Nat, ∃ t : Int, k ≤ n ∧ i = .int .i64 k ∧ s = .int .i64 t ∧ 0 ≤ t ∧ t ≤ l ∧ Hid (t = l - (n : Int) - (lens ((rows.map Prod.snd).take k) : Int)) ∧ Below W.heap.size W wr) (fun _ i _ => n - (intOf i).toNat)
    case atStart => exact ⟨0, _, Nat.zero_le _, rfl, rfl, by omega, by omega, by simp [Hid, lens], Below.refl _ _⟩
    case round =>
      obtain ⟨k, t, hk, rfl, rfl, ht0, ht1, ht, hB⟩ := hrel
      have hz := hB.size
      by_cases hlt : k < n
      · obtain ⟨b, off, s, A', n', c', r, rfl, hbW, hrk, hc0, hc1, hnc, hrl, hR⟩ := h.at_ hlt hB
        have hn' : n' ≤ 9223372036854775807 := by rw [← hrl]; exact hr _ (List.mem_of_getElem? hrk)
        have HR := Lib.hid (snd_at hrk)
        have HRL := Lib.hid hrl
        clear hrk hrl hr h
        rcases szLeft_cases t n' with ⟨h1, h2⟩ | ⟨h1, h2⟩
        · go_wp2_with fail
          refine (szBlock_any s A' n' c' _ _ (by omega) (by omega) (by omega)).mono ?_
          rintro e w1 ⟨rfl, hb1⟩
          have hB1 : Below W.heap.size W w1 := by (repeat (first | exact Below.refl _ _ | assumption | (refine Below.drew ?_) | (refine below_drewN ?_ _) | (refine Below.alloc ?_ (by first | exact Nat.le_refl _ | (simp; done) | (simp; omega) | omega) _) | (refine Below.setCell ?_ (by first | exact Nat.le_refl _ | (simp; done) | (simp; omega) | omega) _) | (refine Below.trans ?_ (Below.mono (by assumption) (by first | exact Nat.le_refl _ | (simp; done) | (simp; omega) | omega)))))
          go_wp2_with fail
          go_ret
          refine ⟨ret_i ?_, by (repeat (first | exact Below.refl _ _ | assumption | (refine Below.drew ?_) | (refine below_drewN ?_ _) | (refine Below.alloc ?_ (by first | exact Nat.le_refl _ | (simp; done) | (simp; omega) | omega) _) | (refine Below.setCell ?_ (by first | exact Nat.le_refl _ | (simp; done) | (simp; omega) | omega) _) | (refine Below.trans ?_ (Below.mono (by assumption) (by first | exact Nat.le_refl _ | (simp; done) | (simp; omega) | omega)))))⟩
          have e1 := ht.out
          have e2 := lens_at HR.out
          have e3 := HRL.out
          have e4 := HL.out
          unfold szLeftSS
          rw [if_pos (by rw [List.length_map]; omega)]
        · go_wp2_with fail
          refine (szBlock_any s A' n' c' _ _ (by omega) (by omega) (by omega)).mono ?_
          rintro e w1 ⟨rfl, hb1⟩
          have hB1 : Below W.heap.size W w1 := by (repeat (first | exact Below.refl _ _ | assumption | (refine Below.drew ?_) | (refine below_drewN ?_ _) | (refine Below.alloc ?_ (by first | exact Nat.le_refl _ | (simp; done) | (simp; omega) | omega) _) | (refine Below.setCell ?_ (by first | exact Nat.le_refl _ | (simp; done) | (simp; omega) | omega) _) | (refine Below.trans ?_ (Below.mono (by assumption) (by first | exact Nat.le_refl _ | (simp; done) | (simp; omega) | omega)))))
          go_wp2_with fail
          go_roundw
          case rel =>
            refine ⟨k + 1, _, by omega, by go_num, rfl, by omega, by omega, ?_, by (repeat (first | exact Below.refl _ _ | assumption | (refine Below.drew ?_) | (refine below_drewN ?_ _) | (refine Below.alloc ?_ (by first | exact Nat.le_refl _ | (simp; done) | (simp; omega) | omega) _) | (refine Below.setCell ?_ (by first | exact Nat.le_refl _ | (simp; done) | (simp; omega) | omega) _) | (refine Below.trans ?_ (Below.mono (by assumption) (by first | exact Nat.le_refl _ | (simp; done) | (simp; omega) | omega)))))⟩
            have e1 := ht.out
            have e3 := HRL.out
            show _ = _
            rw [lens_take_succ HR.out]
            omega
          case measure => simp [intOf]; omega
      · go_wp2
        go_ret
        refine ⟨ret_i ?_, by (repeat (first | exact Below.refl _ _ | assumption | (refine Below.drew ?_) | (refine below_drewN ?_ _) | (refine Below.alloc ?_ (by first | exact Nat.le_refl _ | (simp; done) | (simp; omega) | omega) _) | (refine Below.setCell ?_ (by first | exact Nat.le_refl _ | (simp; done) | (simp; omega) | omega) _) | (refine Below.trans ?_ (Below.mono (by assumption) (by first | exact Nat.le_refl _ | (simp; done) | (simp; omega) | omega)))))⟩
        have e1 := ht.out
        have e4 := HL.out
        rw [List.take_of_length_le (by rw [List.length_map]; omega)] at e1
        unfold szLeftSS
        rw [if_neg (by rw [List.length_map]; omega), List.length_map]
        omega

set_option maxRecDepth 100000 in
theorem toBlockS_any (A : Option Addr) (n c : Nat) (rows : List Blk) (W : World) (h : RdB W A n rows) (hn : n ≤ 1048576) (hr : ∀ r ∈ rows, r.2.length ≤ 1048576) :
    Calls Try.prog 35 #[.slice A n c] W (MadeB W n rows) := by
  have hlen := Lib.hid h.len
  have hmk := mk_eq (P := Try.prog) 60 30 (.agg #[.int .i64 0, .slice none 0 0]) 2 32 Try.underlying60 (by kernel_rfl) n (by omega) (by omega)
  go_enter Try.func35, Try.ntmps35
  go_wp2
  clear hmk
  have hP0 := Part.made W (Value.cells (.agg #[.int .i64 0, .slice none 0 0])) 30 n 2 ([] : List Bd) bdC
  obtain ⟨g, hg⟩ : ∃ g, Hid (g = W.heap.size) := ⟨_, rfl⟩
  rw [← hg.out] at hP0
  rw [show (Addr.mk W.heap.size 0 none) = Addr.mk g 0 none from by rw [hg.out]]
  go_loopw [4] (fun i wr => ∃ (k : Nat) (hs : List Bd), k ≤ n ∧ i = .int .i64 k ∧ Below W.heap.size W wr ∧ Part wr g 30 n 2 hs bdC k ∧ hs.length = k ∧ RowsB wr (g + 1) wr.heap.size hs (rows.take k)) (fun i _ => n - (intOf i).toNat)
  case atStart => exact ⟨0, [], Nat.zero_le _, rfl, by (repeat (first | exact Below.refl _ _ | assumption | (refine Below.drew ?_) | (refine below_drewN ?_ _) | (refine Below.alloc ?_ (by first | exact Nat.le_refl _ | (simp; done) | (simp; omega) | omega) _) | (refine Below.setCell ?_ (by first | exact Nat.le_refl _ | (simp; done) | (simp; omega) | omega) _) | (refine Below.trans ?_ (Below.mono (by assumption) (by first | exact Nat.le_refl _ | (simp; done) | (simp; omega) | omega))))), hP0, rfl, RowsB.nil _ _ _⟩
  case round =>
    obtain ⟨k, hs, hk, rfl, hB, hP, hhl, hrows⟩ := hrel
    have hz := hB.size
    have hglt := hP.lt
    by_cases hlt : k < n
    · obtain ⟨b, off, s, A', n', c', r, rfl, hbW, hrk, hc0, hc1, hnc, hrl, hR⟩ := h.at_ hlt hB
      have hn' : n' ≤ 1048576 := by rw [← hrl]; exact hr _ (List.mem_of_getElem? hrk)
      have HR := Lib.hid hrk
      have HHL := Lib.hid hhl
      clear hrk hrl hhl
      obtain ⟨v0, hv0⟩ := hP.cell (o := k * 2) (by omega)
      obtain ⟨v1, hv1⟩ := hP.cell (o := k * 2 + 1) (by omega)
      have hp0 : wr.frozen? ⟨g, k * 2, none⟩ = false := hP.frozen _
      have hp1 : wr.frozen? ⟨g, k * 2 + 1, none⟩ = false := hP.frozen _
      go_wp2_with fail
      refine (toBlock_any s A' n' c' r _ hR hn').mono ?_
      rintro e w1 ⟨A1, c1, rfl, hk1, hO1, hb1⟩
      obtain ⟨hcb1, hf1⟩ := bcell hb1
      have hz1 := hb1.size
      have hy1 : g < w1.heap.size := by omega
      have hP1 := hP.below hb1
      have hr1 := hrows.below hb1
      have hB1 : Below W.heap.size W w1 := by (repeat (first | exact Below.refl _ _ | assumption | (refine Below.drew ?_) | (refine below_drewN ?_ _) | (refine Below.alloc ?_ (by first | exact Nat.le_refl _ | (simp; done) | (simp; omega) | omega) _) | (refine Below.setCell ?_ (by first | exact Nat.le_refl _ | (simp; done) | (simp; omega) | omega) _) | (refine Below.trans ?_ (Below.mono (by assumption) (by first | exact Nat.le_refl _ | (simp; done) | (simp; omega) | omega)))))
      go_wp2
      go_roundw
      case rel =>
        have hgW := hg.out
        have hb2 : Only g (g + 1) w1 ((w1.setCell ⟨g, k * 2, none⟩ (.int .i64 s)).setCell ⟨g, k * 2 + 1, none⟩ (.slice A1 n' c1)) := ⟨rfl, rfl, rfl, by simp [World.setCell], fun j hj hd => (Below.heap_setCell _ ⟨g, k * 2 + 1, none⟩ _ j (by show j ≠ g; omega)).trans (Below.heap_setCell w1 ⟨g, k * 2, none⟩ _ j (by show j ≠ g; omega))⟩
        have hP2 : Part w1 g 30 n 2 (hs ++ [⟨s, A1, n', c1⟩]) bdC k := by
          obtain ⟨cc, e1, e2, e3⟩ := hP1
          refine ⟨cc, e1, e2, fun i x j u hi hx hu => e3 i x j u hi ?_ hu⟩
          rw [List.getElem?_append_left (by have := HHL.out; omega)] at hx
          exact hx
        have hP3 := hP2.store (x := ⟨s, A1, n', c1⟩) (by rw [← HHL.out]; simp) bdC_len hlt
        simp only [bdC, setRow] at hP3
        have hrows2 := RowsB.push (x := ⟨s, A1, n', c1⟩) (r := (s, r)) hr1 ⟨rfl, hk1⟩ hO1 (by omega) hz1
        have hrows3 := hrows2.off hb2 (hrows2.off_of (.inl (Nat.lt_succ_self _)))
        rw [show rows.take k ++ [(s, r)] = rows.take (k + 1) by rw [List.take_add_one, HR.out]; rfl] at hrows3
        exact ⟨k + 1, hs ++ [⟨s, A1, n', c1⟩], by omega, by go_num, below_setRow hB1 (g := g) (Nat.le_of_eq hg.out.symm) (k * 2) (bdC ⟨s, A1, n', c1⟩), hP3, by simp [HHL.out], hrows3.mono (Nat.le_refl _) (by simp [World.setCell])⟩
      case measure => simp [intOf]; omega
    · go_wp2
      go_ret
      obtain rfl : k = n := by omega
      have hl := hlen.out
      rw [List.take_of_length_le (by omega)] at hrows
      have hgW := hg.out
      exact ⟨some ⟨g, 0, none⟩, k, rfl, Nat.le_refl _, ⟨hl, hs, ⟨hhl, fun _ => ⟨g, _, rfl, Nat.le_of_eq hg.out.symm, hP.lt, hP⟩⟩, hrows.mono (by omega) (Nat.le_refl _), fun a ha _ => by
        injection ha with ha
        subst ha
        exact hrows.off_of (.inl (Nat.lt_succ_self _))⟩, by (repeat (first | exact Below.refl _ _ | assumption | (refine Below.drew ?_) | (refine below_drewN ?_ _) | (refine Below.alloc ?_ (by first | exact Nat.le_refl _ | (simp; done) | (simp; omega) | omega) _) | (refine Below.setCell ?_ (by first | exact Nat.le_refl _ | (simp; done) | (simp; omega) | omega) _) | (refine Below.trans ?_ (Below.mono (by assumption) (by first | exact Nat.le_refl _ | (simp; done) | (simp; omega) | omega)))))⟩

set_option maxRecDepth 100000 in
theorem eqBlockS_any (A B : Option Addr) (n c d : Nat) (rows : List Blk) (W : World) (h : RdB W A n rows) (h' : RdB W B n rows) (hn : n ≤ 1048576) (hr : ∀ r ∈ rows, r.2.length ≤ 1048576) :
    Calls Try.prog 38 #[.slice A n c, .slice B n d] W fun e w' => e = .returned (.bool true) ∧ Below W.heap.size W w' := by
  go_enter Try.func38, Try.ntmps38
  go_wp2
  go_loopw [5] (fun i wr => ∃ k : Nat, k ≤ n ∧ i = .int .i64 k ∧ Below W.heap.size W wr) (fun i _ => n - (intOf i).toNat)
  case atStart => exact ⟨0, Nat.zero_le _, rfl, Below.refl _ _⟩
  case round =>
    obtain ⟨k, hk, rfl, hB⟩ := hrel
    have hz := hB.size
    by_cases hlt : k < n
    · obtain ⟨b, off, s, A1, n1, c1, r, rfl, hbW, hr1, e0, e1, hnc, hrl, hR⟩ := h.at_ hlt hB
      obtain ⟨b', off', s', A2, n2, c2, r', rfl, hbW', hr2, f0, f1, hnc', hrl', hR'⟩ := h'.at_ hlt hB
      have e9 : (s, r) = (s', r') := by rw [hr1] at hr2; injection hr2
      injection e9 with e8 e9
      subst e8
      subst e9
      obtain rfl : n1 = n2 := by rw [← hrl, ← hrl']
      have hn1 : n1 ≤ 1048576 := by rw [← hrl]; exact hr _ (List.mem_of_getElem? hr1)
      clear hr1 hr2 hrl hrl' h h' hr
      go_wp2
      go_still_tail 8, (by kernel_rfl)
      have hB0 := hB.drew
      have hz0 := hB0.size
      have hR0 : Rd (World.drew wr) A1 n1 3 r cellC := hR
      have hR0' : Rd (World.drew wr) A2 n1 3 r cellC := hR'
      change wpList _ _ _ _ _ (World.drew wr)
      generalize World.drew wr = w0 at hB0 hz0 hR0 hR0' ⊢
      go_wp2_with fail
      refine (eqBlock_any s _ _ n1 _ _ r _ hR0 hR0' hn1).mono ?_
      rintro e w1 ⟨rfl, hb1⟩
      go_wp2_with fail
      go_roundw
      case rel => exact ⟨k + 1, by omega, by go_num, by (repeat (first | exact Below.refl _ _ | assumption | (refine Below.drew ?_) | (refine below_drewN ?_ _) | (refine Below.alloc ?_ (by first | exact Nat.le_refl _ | (simp; done) | (simp; omega) | omega) _) | (refine Below.setCell ?_ (by first | exact Nat.le_refl _ | (simp; done) | (simp; omega) | omega) _) | (refine Below.trans ?_ (Below.mono (by assumption) (by first | exact Nat.le_refl _ | (simp; done) | (simp; omega) | omega)))))⟩
      case measure => simp [intOf]; omega
    · go_wp2
      go_ret
      exact ⟨rfl, by (repeat (first | exact Below.refl _ _ | assumption | (refine Below.drew ?_) | (refine below_drewN ?_ _) | (refine Below.alloc ?_ (by first | exact Nat.le_refl _ | (simp; done) | (simp; omega) | omega) _) | (refine Below.setCell ?_ (by first | exact Nat.le_refl _ | (simp; done) | (simp; omega) | omega) _) | (refine Below.trans ?_ (Below.mono (by assumption) (by first | exact Nat.le_refl _ | (simp; done) | (simp; omega) | omega)))))⟩

end Go.Proofs.Ytkbpehklfjnjjaa
