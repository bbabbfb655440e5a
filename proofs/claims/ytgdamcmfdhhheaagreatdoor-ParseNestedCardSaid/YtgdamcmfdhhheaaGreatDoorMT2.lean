/- What the rows' list of variables gives a walk; a world that meets it. -/
import Derived.Test.YtgdamcmfdhhheaaGreatDoorCards
import Derived.Test.YtgdamcmfdhhheaaGreatDoorTie
import Derived.ProofKit
import Derived.OpenShut
import Derived.Deep.DeepHandedRow
import Derived.Lib.LaidTab
import Derived.Stop.LaidErr
import Derived.Shelf.Vars
import Derived.Test.YtgdamcmfdhhheaaGreatDoorML3
set_option linter.all false

namespace Go.Proofs.YtgdamcmfdhhheaaGreatDoor
open Go.ChangeShapes Go.WideShapes Go.ChangeAt Go.RowKit Bf

theorem own : ownKnob Tryz.prog.godebug = none := by kernel_rfl
theorem gPow : Tryz.prog.globalNamed "internal/strconv.uint64pow10" = some 2 := by kernel_rfl
theorem gPowType : (Tryz.prog.globals[2]?).map (·.type) = some 164 := by kernel_rfl
theorem cellsPow : Tryz.prog.cellsOf 164 = 20 := by kernel_rfl
theorem cellsU64 : Tryz.prog.cellsOf 145 = 1 := by kernel_rfl

/-- The list of the rows. -/
abbrev laidRow : List (String × DataW Unit) := Rows.parseJoinedRow.laid

theorem ground_of {W : World} (h : laidMetH Tryz.prog laidRow W) (hs : W.ShapedOpen Tryz.prog) : Ground2 W := by
  refine ⟨?_, ?_⟩
  · exact cell_of_shapedOpen_int (g := 0) (t := 3) (zero := #[.int .i64 0]) hs (of_decide_eq_true (by kernel_rfl)) (by kernel_rfl) rfl (by kernel_rfl) (by kernel_rfl) Tryz.underlying3
  · have h1 : laidMet Tryz.prog laidRow W := h
    have h2 : laidMet Tryz.prog (laidRow.drop 2) W := laidMet.tail (laidMet.tail h1)
    exact Lib.tabIs_of_head (rest := laidRow.drop 3) gPow gPowType Tryz.underlying164 Tryz.underlying145 cellsU64 cellsPow h2

/-- A world for the witness: the settled one, the listed tables holding what they are said to hold. -/
noncomputable def laidWorld (os : Os) : World :=
  let lay (g : Nat) (cs : Array Value) (w : World) : World := { w with heap := w.heap.modify g fun
      | .cells _ t frozen => .cells cs t frozen
      | o => o }
  let u8 (zs : List Nat) : Array Value := (zs.map fun (n : Nat) => Value.int .u8 (n : Int)).toArray
  lay 5 (u8 [0, 1, 28, 2, 29, 14, 24, 3, 30, 22, 20, 15, 25, 17, 4, 8, 31, 27, 13, 23, 21, 19, 16, 7, 26, 12, 18, 6, 11, 5, 10, 9]) <|
  lay 6 (u8 [0, 1, 56, 2, 57, 49, 28, 3, 61, 58, 42, 50, 38, 29, 17, 4, 62, 47, 59, 36, 45, 43, 51, 22, 53, 39, 33, 30, 24, 18, 12, 5, 63, 55, 48, 27, 60, 41, 37, 16, 46, 35, 44, 21, 52, 32, 23, 11, 54, 26, 40, 15, 34, 20, 31, 10, 25, 14, 19, 9, 13, 8, 7, 6]) <|
  lay 2 (((List.range 20).map fun (n : Nat) => Value.int .u64 ((10 ^ n : Nat) : Int)).toArray) <|
  lay 4 (u8 [128, 191, 160, 191, 128, 159, 144, 191, 128, 143, 0, 0, 0, 0, 0, 0, 0, 0, 0, 0, 0, 0, 0, 0, 0, 0, 0, 0, 0, 0, 0, 0]) <|
  lay 3 (u8 Go.Pinned.utf8FirstZ) (World.holding Tryz.prog os ⟨#[], #[], []⟩)

theorem laid_met (os : Os) (args : Array Value) : laidMet Tryz.prog laidRow ((laidWorld os).forCall (fun _ _ => 0) ⟨#[], args, []⟩).memory :=
  laidMet_of_run' 8 (by kernel_rfl) (by kernel_rfl)

end Go.Proofs.YtgdamcmfdhhheaaGreatDoor
