/-
  How the elements of a law's slices are read: each of the program's flat types, out of its cells.
-/
import Derived.Test.YtmjdgplkcocgmaaOpen
import Derived.Test.YtmjdgplkcocgmaaPlainT
set_option linter.unusedVariables false
namespace Go.Proofs.Ytmjdgplkcocgmaa
open Go.RowKit Go.ChangeShapes Go.WideShapes Go.Deep Go.Joins

section
variable {H : Type} {enc : TypeId × Value → H} {P : Program} {w : World} {spare : Nat → Bool} {held : Bool}

theorem dec_need {e : TypeId} {f0 f1 f2 : Field} (he : P.underlying e = some (.struct #[f0, f1, f2])) (hone : oneCellFields P #[f0, f1, f2] = true) (hC : P.cellsOf e = 3) (t0 : P.underlying f0.type = some (.int .i64)) (t1 : P.underlying f1.type = some (.int .i64)) (t2 : P.underlying f2.type = some (.int .i64))
    (n : Nat) (cs : List Value) (y : DataW H × List MemPlace) (h : DataW.trod enc P w 0 spare held n e cs = some y) : ∃ x : Need, ([.int .i64 x.W, .int .i64 x.H, .int .i64 x.Count] : List Value) = cs := by
  obtain ⟨hl, m, hf⟩ := dec_fields he hone hC h
  match cs, hl with
  | [d0, d1, d2], _ =>
    obtain ⟨v0, y0, c0, k0⟩ := hf 0 f0 rfl
    obtain ⟨z0, rfl⟩ := dec_int1 t0 k0
    obtain ⟨v1, y1, c1, k1⟩ := hf 1 f1 rfl
    obtain ⟨z1, rfl⟩ := dec_int1 t1 k1
    obtain ⟨v2, y2, c2, k2⟩ := hf 2 f2 rfl
    obtain ⟨z2, rfl⟩ := dec_int1 t2 k2
    simp only [List.getElem?_cons_zero, List.getElem?_cons_succ, Option.some.injEq] at c0 c1 c2
    subst c0 c1 c2
    exact ⟨⟨z0, z1, z2⟩, rfl⟩

theorem dec_line {e : TypeId} {f0 f1 : Field} (he : P.underlying e = some (.struct #[f0, f1])) (hone : oneCellFields P #[f0, f1] = true) (hC : P.cellsOf e = 2) (t0 : P.underlying f0.type = some (.int .i64)) (t1 : P.underlying f1.type = some (.int .i64))
    (n : Nat) (cs : List Value) (y : DataW H × List MemPlace) (h : DataW.trod enc P w 0 spare held n e cs = some y) : ∃ x : Line, ([.int .i64 x.From, .int .i64 x.To] : List Value) = cs := by
  obtain ⟨hl, m, hf⟩ := dec_fields he hone hC h
  match cs, hl with
  | [d0, d1], _ =>
    obtain ⟨v0, y0, c0, k0⟩ := hf 0 f0 rfl
    obtain ⟨z0, rfl⟩ := dec_int1 t0 k0
    obtain ⟨v1, y1, c1, k1⟩ := hf 1 f1 rfl
    obtain ⟨z1, rfl⟩ := dec_int1 t1 k1
    simp only [List.getElem?_cons_zero, List.getElem?_cons_succ, Option.some.injEq] at c0 c1
    subst c0 c1
    exact ⟨⟨z0, z1⟩, rfl⟩

theorem dec_join {e : TypeId} {f0 f1 f2 : Field} (he : P.underlying e = some (.struct #[f0, f1, f2])) (hone : oneCellFields P #[f0, f1, f2] = true) (hC : P.cellsOf e = 3) (t0 : P.underlying f0.type = some .bool) (t1 : P.underlying f1.type = some (.int .i64)) (t2 : P.underlying f2.type = some (.int .i64))
    (n : Nat) (cs : List Value) (y : DataW H × List MemPlace) (h : DataW.trod enc P w 0 spare held n e cs = some y) : ∃ x : Join, ([.bool x.Upright, .int .i64 x.A, .int .i64 x.B] : List Value) = cs := by
  obtain ⟨hl, m, hf⟩ := dec_fields he hone hC h
  match cs, hl with
  | [d0, d1, d2], _ =>
    obtain ⟨v0, y0, c0, k0⟩ := hf 0 f0 rfl
    obtain ⟨z0, rfl⟩ := dec_bool1 t0 k0
    obtain ⟨v1, y1, c1, k1⟩ := hf 1 f1 rfl
    obtain ⟨z1, rfl⟩ := dec_int1 t1 k1
    obtain ⟨v2, y2, c2, k2⟩ := hf 2 f2 rfl
    obtain ⟨z2, rfl⟩ := dec_int1 t2 k2
    simp only [List.getElem?_cons_zero, List.getElem?_cons_succ, Option.some.injEq] at c0 c1 c2
    subst c0 c1 c2
    exact ⟨⟨z0, z1, z2⟩, rfl⟩

theorem dec_patch {e : TypeId} {f0 f1 f2 f3 f4 : Field} (he : P.underlying e = some (.struct #[f0, f1, f2, f3, f4])) (hone : oneCellFields P #[f0, f1, f2, f3, f4] = true) (hC : P.cellsOf e = 5) (t0 : P.underlying f0.type = some (.int .i64)) (t1 : P.underlying f1.type = some (.int .i64)) (t2 : P.underlying f2.type = some (.int .i64)) (t3 : P.underlying f3.type = some (.int .i64)) (t4 : P.underlying f4.type = some (.int .i64))
    (n : Nat) (cs : List Value) (y : DataW H × List MemPlace) (h : DataW.trod enc P w 0 spare held n e cs = some y) : ∃ x : Patch, ([.int .i64 x.X, .int .i64 x.Y, .int .i64 x.W, .int .i64 x.H, .int .i64 x.Color] : List Value) = cs := by
  obtain ⟨hl, m, hf⟩ := dec_fields he hone hC h
  match cs, hl with
  | [d0, d1, d2, d3, d4], _ =>
    obtain ⟨v0, y0, c0, k0⟩ := hf 0 f0 rfl
    obtain ⟨z0, rfl⟩ := dec_int1 t0 k0
    obtain ⟨v1, y1, c1, k1⟩ := hf 1 f1 rfl
    obtain ⟨z1, rfl⟩ := dec_int1 t1 k1
    obtain ⟨v2, y2, c2, k2⟩ := hf 2 f2 rfl
    obtain ⟨z2, rfl⟩ := dec_int1 t2 k2
    obtain ⟨v3, y3, c3, k3⟩ := hf 3 f3 rfl
    obtain ⟨z3, rfl⟩ := dec_int1 t3 k3
    obtain ⟨v4, y4, c4, k4⟩ := hf 4 f4 rfl
    obtain ⟨z4, rfl⟩ := dec_int1 t4 k4
    simp only [List.getElem?_cons_zero, List.getElem?_cons_succ, Option.some.injEq] at c0 c1 c2 c3 c4
    subst c0 c1 c2 c3 c4
    exact ⟨⟨z0, z1, z2, z3, z4⟩, rfl⟩

theorem dec_cell {e : TypeId} {f0 f1 f2 : Field} (he : P.underlying e = some (.struct #[f0, f1, f2])) (hone : oneCellFields P #[f0, f1, f2] = true) (hC : P.cellsOf e = 3) (t0 : P.underlying f0.type = some (.int .i64)) (t1 : P.underlying f1.type = some (.int .i64)) (t2 : P.underlying f2.type = some (.int .i64))
    (n : Nat) (cs : List Value) (y : DataW H × List MemPlace) (h : DataW.trod enc P w 0 spare held n e cs = some y) : ∃ x : Cell, ([.int .i64 x.Split, .int .i64 x.A, .int .i64 x.B] : List Value) = cs := by
  obtain ⟨hl, m, hf⟩ := dec_fields he hone hC h
  match cs, hl with
  | [d0, d1, d2], _ =>
    obtain ⟨v0, y0, c0, k0⟩ := hf 0 f0 rfl
    obtain ⟨z0, rfl⟩ := dec_int1 t0 k0
    obtain ⟨v1, y1, c1, k1⟩ := hf 1 f1 rfl
    obtain ⟨z1, rfl⟩ := dec_int1 t1 k1
    obtain ⟨v2, y2, c2, k2⟩ := hf 2 f2 rfl
    obtain ⟨z2, rfl⟩ := dec_int1 t2 k2
    simp only [List.getElem?_cons_zero, List.getElem?_cons_succ, Option.some.injEq] at c0 c1 c2
    subst c0 c1 c2
    exact ⟨⟨z0, z1, z2⟩, rfl⟩

theorem dec_spot {e : TypeId} {f0 f1 : Field} (he : P.underlying e = some (.struct #[f0, f1])) (hone : oneCellFields P #[f0, f1] = true) (hC : P.cellsOf e = 2) (t0 : P.underlying f0.type = some (.int .i64)) (t1 : P.underlying f1.type = some (.int .i64))
    (n : Nat) (cs : List Value) (y : DataW H × List MemPlace) (h : DataW.trod enc P w 0 spare held n e cs = some y) : ∃ x : Spot, ([.int .i64 x.Block, .int .i64 x.Seen] : List Value) = cs := by
  obtain ⟨hl, m, hf⟩ := dec_fields he hone hC h
  match cs, hl with
  | [d0, d1], _ =>
    obtain ⟨v0, y0, c0, k0⟩ := hf 0 f0 rfl
    obtain ⟨z0, rfl⟩ := dec_int1 t0 k0
    obtain ⟨v1, y1, c1, k1⟩ := hf 1 f1 rfl
    obtain ⟨z1, rfl⟩ := dec_int1 t1 k1
    simp only [List.getElem?_cons_zero, List.getElem?_cons_succ, Option.some.injEq] at c0 c1
    subst c0 c1
    exact ⟨⟨z0, z1⟩, rfl⟩


theorem dec_byte {e : TypeId} (he : P.underlying e = some (.int .u8)) (n : Nat) (cs : List Value) (y : DataW H × List MemPlace) (h : DataW.trod enc P w 0 spare held n e cs = some y) : ∃ x : UInt8, byteC x = cs := by
  obtain ⟨z, rfl, _, hw⟩ := DataW.trod_int he h
  have h1 : 0 ≤ z ∧ z ≤ 255 := bounds_u8 hw
  refine ⟨UInt8.ofNat z.toNat, ?_⟩
  unfold byteC
  have : ((UInt8.ofNat z.toNat).toNat : Int) = z := by
    rw [UInt8.toNat_ofNat']
    omega
  rw [this]
end

end Go.Proofs.Ytmjdgplkcocgmaa
