/- What the rows' listed variables give the walks: the library's table of blanks lies as its text lays it (Gw); and a world in which they lie so. -/
import Derived.Test.YtpemgladmnbfhaaDoorRows
import Derived.Test.YtpemgladmnbfhaaDoorWd
import Derived.ProofKit
import Derived.LaidMore
import Derived.LaidOnce
import Derived.MakeChecks
import Derived.Stop.Joined
import Derived.Stop.LaidErr
namespace Go.Proofs.YtpemgladmnbfhaaDoor.Do
open Go Go.RowKit Go.Proofs.YtpemgladmnbfhaaDoor.Wd Go.Proofs.YtpemgladmnbfhaaDoorW.PrintWords
theorem own : ownKnob Tryd.prog.godebug = none := by kernel_rfl
noncomputable def laid : List (String × DataW Unit) := [("unicode.White_Space", Rows.laid_unicode_White_Space), ("strings.asciiSpace", Rows.laid_strings_asciiSpace)]
set_option maxRecDepth 100000 in
theorem door_met (os : Os) (args : Array Value) : laidMetH Tryd.prog laid ((World.doorLaid Tryd.prog 33 os).forCall (fun _ _ => 0) ⟨#[], args, []⟩).memory :=
  laidMetH_of_parts3 (fuel := 8) (laidMet_of_run' 8 (by kernel_rfl) (by kernel_rfl)) (by kernel_rfl) (by kernel_rfl)
set_option maxRecDepth 100000 in
theorem tab_eq : Rows.laid_strings_asciiSpace (H := Unit) = Lib.tabData .u8 Lib.asciiSpaceTab := by rfl
theorem gType : (Tryd.prog.globals[0]?).map (·.type) = some 90 := by kernel_rfl
theorem cells5 : Tryd.prog.cellsOf 5 = 1 := by kernel_rfl
theorem cells90 : Tryd.prog.cellsOf 90 = 256 := by kernel_rfl
theorem of_laid {W : World} (h : laidMetH Tryd.prog laid W) : Aside0 (Gw W) := by
  rw [MakeChecks.laidMetH_plain _ _ _ (by kernel_rfl)] at h
  unfold laid at h
  rw [tab_eq] at h
  have h2 := laidMet.tail h
  exact ⟨⟨Lib.tabIs_of_head glob0 gType Tryd.underlying90 Tryd.underlying5 cells5 cells90 h2⟩⟩
end Go.Proofs.YtpemgladmnbfhaaDoor.Do
