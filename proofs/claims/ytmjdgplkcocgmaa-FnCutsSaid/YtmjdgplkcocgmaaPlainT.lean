/-
  The program's flat types as plain structures.
-/
namespace Go.Proofs.Ytmjdgplkcocgmaa

structure Need where
  W : Int
  H : Int
  Count : Int
instance : Inhabited Need := ⟨⟨0, 0, 0⟩⟩

structure Line where
  From : Int
  To : Int
instance : Inhabited Line := ⟨⟨0, 0⟩⟩

structure Join where
  Upright : Bool
  A : Int
  B : Int
instance : Inhabited Join := ⟨⟨false, 0, 0⟩⟩

structure Patch where
  X : Int
  Y : Int
  W : Int
  H : Int
  Color : Int
instance : Inhabited Patch := ⟨⟨0, 0, 0, 0, 0⟩⟩

structure Cell where
  Split : Int
  A : Int
  B : Int
instance : Inhabited Cell := ⟨⟨0, 0, 0⟩⟩

structure Spot where
  Block : Int
  Seen : Int
instance : Inhabited Spot := ⟨⟨0, 0⟩⟩

end Go.Proofs.Ytmjdgplkcocgmaa
