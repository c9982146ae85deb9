/- Small facts for the walks of laws. No condition. -/
import Derived.Test.YtagiecajffhnpaaGreatWBase
import Derived.Deep.DeepCutAuto
namespace Go.Proofs.YtagiecajffhnpaaGreat

open Go.ChangeShapes Go.WideShapes Go.ChangeAt Go.RowKit Go.Joins

theorem cell_same {w : World} {a : Addr} {u v : Value} (h : w.cell? a = some v) : (w.setCell a u).cell? a = some u := World.cell?_setCell_same w a u h
theorem cell_set2 {w : World} {a b : Addr} {u v : Value} (hne : b ≠ a) (h : w.cell? a = some v) : (w.setCell b u).cell? a = some v := (World.cell?_setCell_other w b a u hne).trans h
theorem cell_same2 {w : World} {a : Addr} {u : Value} (h : w.cell? a = some (cv w a)) : (w.setCell a u).cell? a = some u := World.cell?_setCell_same w a u h
end Go.Proofs.YtagiecajffhnpaaGreat
