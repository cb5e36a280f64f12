/-
  Words for a closure that appends to a captured slice and writes a row in place.
-/
import Derived.Test.YtmjdgplkcocgmaaJoiA
import Derived.Test.YtmjdgplkcocgmaaFlatJoin
import Derived.Test.YtmjdgplkcocgmaaZWords
set_option linter.unusedVariables false
namespace Go.Proofs.Ytmjdgplkcocgmaa
open Go.RowKit

/-- Of what stood in W, only box b and the row behind it have turned. -/
structure Grew (W w : World) (b : Nat) (v v' : Value) : Prop where
  os : w.os = W.os
  tape : w.tape = W.tape
  output : w.output = W.output
  size : W.heap.size ≤ w.heap.size
  block : ∀ k, k < W.heap.size → k ≠ b → v.ownBlock ≠ some k → w.heap[k]? = W.heap[k]?
  at_ : v'.ownBlock = v.ownBlock ∨ ∃ g, v'.ownBlock = some g ∧ W.heap.size ≤ g
section
variable {W w w' : World} {b : Nat} {v v' v'' : Value}
theorem Grew.of_below (h : Below W.heap.size W w) (b : Nat) (v : Value) : Grew W w b v v := ⟨h.os, h.tape, h.output, h.size, fun k hk _ _ => h.block k hk, .inl rfl⟩
theorem Grew.refl (W : World) (b : Nat) (v : Value) : Grew W W b v v := .of_below (Below.refl _ _) b v
theorem Grew.trans (h : Grew W w b v v') (k : Grew w w' b v' v'') : Grew W w' b v v'' := by
  refine ⟨k.os.trans h.os, k.tape.trans h.tape, k.output.trans h.output, Nat.le_trans h.size k.size, fun i hi hb hv => ?_, ?_⟩
  · refine (k.block i (Nat.lt_of_lt_of_le hi h.size) hb ?_).trans (h.block i hi hb hv)
    rcases h.at_ with e | ⟨g, e, hg⟩
    · rw [e]; exact hv
    · rw [e]; intro e'; injection e' with e'; omega
  · rcases k.at_ with e | ⟨g, e, hg⟩
    · rw [e]; exact h.at_
    · exact .inr ⟨g, e, Nat.le_trans h.size hg⟩
theorem Grew.of_grown {m : Nat} (h : W.grownBy w v.ownBlock) (hat : v'.ownBlock = v.ownBlock ∨ v'.ownBlock = some m) (hm : W.heap.size ≤ m) (b : Nat) : Grew W w b v v' :=
  ⟨h.os, h.tape, h.output, h.size, fun k hk _ hv => h.block k hk (fun e => hv e.symm), hat.imp id fun e => ⟨_, e, hm⟩⟩
theorem Grew.set (h : Grew W w b v v') (o : Nat) (u : Value) : Grew W (w.setCell ⟨b, o, none⟩ u) b v v' := by
  refine ⟨h.os, h.tape, h.output, by simpa [World.setCell] using h.size, fun k hk hb hv => ?_, h.at_⟩
  rw [Below.heap_setCell w ⟨b, o, none⟩ u k hb]
  exact h.block k hk hb hv
theorem Grew.row {g : Nat} {o : Obj} (h : Grew W w b v v') (hg : W.heap[g]? = some o) (h1 : g ≠ b) (h2 : v.ownBlock ≠ some g) : w.heap[g]? = some o := (h.block g (heap_lt hg) h1 h2).trans hg
/-- what reads in blocks that do not turn -/
theorem Grew.rd {α : Type} {A : Option Addr} {n sz lo : Nat} {xs : List α} {cells : α → List Value} (h : Grew W w b v v') (hO : Own W lo W.heap.size A n sz xs cells) (hb : b < lo) (hv : ∀ g, v.ownBlock = some g → g < lo) : Own w lo w.heap.size A n sz xs cells :=
  ⟨hO.1, fun hn => by
    obtain ⟨g, T, e, h1, h2, hp⟩ := hO.2 hn
    exact ⟨g, T, e, h1, Nat.lt_of_lt_of_le h2 h.size, hp.block (h.block g hp.lt (by omega) (fun e' => by have := hv g e'; omega))⟩⟩
end
/-- a row's block holds elements of the row's type -/
theorem Acc.other {α : Type} {w : World} {lo sz : Nat} {e : TypeId} {v : Value} {xs : List α} {cells : α → List Value} (h : Acc w lo e sz v xs cells) {g : Nat} {c : Array Value} {T : TypeId} {f : Nat × Nat} (hg : w.heap[g]? = some (.cells c T f)) (hT : T ≠ e) : v.ownBlock ≠ some g := by
  intro hv
  rcases h.2 with ⟨rfl, _⟩ | ⟨g', cap, cur, rfl, _, hh, _⟩
  · cases hv
  · have : g' = g := by simpa [Value.ownBlock] using hv
    subst this
    rw [hg] at hh
    injection hh with hh
    injection hh with _ h2 _
    exact hT h2
theorem Acc.grew {α : Type} {W w : World} {lo sz : Nat} {e : TypeId} {v : Value} {xs : List α} {cells : α → List Value} (h : Acc W lo e sz v xs cells) (hb : ∀ k, k < W.heap.size → w.heap[k]? = W.heap[k]?) : Acc w lo e sz v xs cells := by
  obtain ⟨h1, h2⟩ := h
  refine ⟨h1, ?_⟩
  rcases h2 with h2 | ⟨g, cap, cur, hv, hlo, hh, r⟩
  · exact .inl h2
  · exact .inr ⟨g, cap, cur, hv, hlo, (hb g (heap_lt hh)).trans hh, r⟩
theorem Acc.far {α : Type} {w : World} {lo sz : Nat} {e : TypeId} {v : Value} {xs : List α} {cells : α → List Value} (h : Acc w lo e sz v xs cells) {b : Nat} (hne : v.ownBlock ≠ some b) (o : Nat) (u : Value) : Acc (w.setCell ⟨b, o, none⟩ u) lo e sz v xs cells := by
  obtain ⟨h1, h2⟩ := h
  refine ⟨h1, ?_⟩
  rcases h2 with h2 | ⟨g, cap, cur, hv, hlo, hh, r⟩
  · exact .inl h2
  · refine .inr ⟨g, cap, cur, hv, hlo, ?_, r⟩
    rw [Below.heap_setCell w ⟨b, o, none⟩ u g (fun e => hne (by rw [hv, ← (show g = b from e)]; rfl))]
    exact hh

theorem Own.apart2 {α : Type} {w w' : World} {lo hi n sz g1 g2 : Nat} {A : Option Addr} {xs : List α} {cells : α → List Value} (h : Own w lo hi A n sz xs cells) (hb : ∀ k, k ≠ g1 → k ≠ g2 → k < w.heap.size → w'.heap[k]? = w.heap[k]?)
    (h1 : ∀ k, A = some ⟨k, 0, none⟩ → k ≠ g1 ∧ k ≠ g2) : Own w' lo hi A n sz xs cells :=
  ⟨h.1, fun hn => by
    obtain ⟨g, T, e, h2, h3, hp⟩ := h.2 hn
    exact ⟨g, T, e, h2, h3, hp.block (hb g (h1 g e).1 (h1 g e).2 hp.lt)⟩⟩
theorem dis_ne {A : Option Addr} {n c m d g : Nat} (h : Dis (.slice A n c) (.slice (some ⟨g, 0, none⟩) m d)) {k : Nat} (e : A = some ⟨k, 0, none⟩) : k ≠ g := fun e' => h k (by rw [e]; rfl) (by rw [e']; rfl)
theorem grown_drew {a w : World} {row : Option Nat} (h : a.grownBy w row) : a.grownBy w.drew row := ⟨h.os, h.tape, h.output, h.size, h.block⟩

/-! ### a row of numbers, the first i of them put for what they name -/
def putRow (L nums : List Int) (i : Nat) : List Int := pickNums (L.take i) nums ++ L.drop i
theorem putRow_zero (L nums : List Int) : putRow L nums 0 = L := rfl
theorem putRow_len (L nums : List Int) (i : Nat) : (putRow L nums i).length = L.length := by
  unfold putRow pickNums
  rw [List.length_append, List.length_map, List.length_take, List.length_drop]
  omega
theorem putRow_all {L nums : List Int} {i : Nat} (h : L.length ≤ i) : putRow L nums i = pickNums L nums := by
  unfold putRow
  rw [List.take_of_length_le h, List.drop_of_length_le h, List.append_nil]
theorem putRow_at {L nums : List Int} {i : Nat} {x : Int} (hx : L[i]? = some x) : (putRow L nums i).getD i 0 = x := by
  have hi : i < L.length := (List.getElem?_eq_some_iff.1 hx).1
  unfold putRow pickNums
  rw [List.getD_eq_getElem?_getD, List.getElem?_append_right (by rw [List.length_map, List.length_take]; omega), List.length_map, List.length_take, Nat.min_eq_left (by omega), Nat.sub_self, List.getElem?_drop, Nat.add_zero, hx]
  rfl
theorem putRow_succ {L nums : List Int} {i : Nat} {x : Int} (hx : L[i]? = some x) : (putRow L nums i).set i (nums.getD x.toNat 0) = putRow L nums (i + 1) := by
  have hi : i < L.length := (List.getElem?_eq_some_iff.1 hx).1
  have hx' : L[i] = x := (List.getElem?_eq_some_iff.1 hx).2
  unfold putRow pickNums
  rw [List.set_append_right _ _ (by rw [List.length_map, List.length_take]; omega), List.length_map, List.length_take, Nat.min_eq_left (by omega), Nat.sub_self]
  rw [List.drop_eq_getElem_cons hi, List.set_cons_zero, List.take_add_one, hx, List.map_append, List.append_assoc]
  rfl
theorem numsUp_at {c : Cut} {ps : List Patch} {first : Bool} {n i : Nat} {x : Int} (h : (numsUp c ps first n)[i]? = some x) : ∃ p : Nat, x = (p : Int) ∧ p < n := by
  have hm := List.mem_of_getElem? h
  unfold numsUp at hm
  obtain ⟨p, hp, rfl⟩ := List.mem_map.1 hm
  exact ⟨p, rfl, List.mem_range.1 (List.mem_filter.1 hp).1⟩

end Go.Proofs.Ytmjdgplkcocgmaa
