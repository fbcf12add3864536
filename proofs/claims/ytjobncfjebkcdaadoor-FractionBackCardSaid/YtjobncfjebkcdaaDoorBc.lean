/- What the list of FractionBack's row gives: the two errors. -/
import Derived.Test.YtjobncfjebkcdaaDoorCf
import Derived.Test.YtjobncfjebkcdaaDoorBw
import Derived.Stop.LaidErr
namespace Go.Proofs.YtjobncfjebkcdaaDoor
open Go.ChangeShapes Go.WideShapes Go.ChangeAt Go.RowKit Go.Joins

theorem starErr : "*" ++ "errors.errorString" = "*errors.errorString" := by decide
theorem rowErr (u : TypeId) (h : Tryd.prog.typeName? 3 u = some "*errors.errorString") : u = 88 :=
  typeName_ptr_named (nm := "errors.errorString") (by rw [starErr]; kernel_rfl) (by kernel_rfl) (by decide) u (by rw [starErr]; exact h)
theorem gSyn : Tryd.prog.globalNamed "strconv.ErrSyntax" = some 1 := by kernel_rfl
theorem gRan : Tryd.prog.globalNamed "strconv.ErrRange" = some 2 := by kernel_rfl
theorem tSyn : (Tryd.prog.globals[1]?).map (·.type) = some 52 := by kernel_rfl
theorem tRan : (Tryd.prog.globals[2]?).map (·.type) = some 52 := by kernel_rfl
theorem cErr : Tryd.prog.cellsOf 90 = 1 := by kernel_rfl
theorem cStr : Tryd.prog.cellsOf 9 = 1 := by kernel_rfl
theorem er_of_laid {W : World} (h : laidMetH Tryd.prog Rows.fractionBackRow.laid W) : Er W := by
  rw [MakeChecks.laidMetH_plain _ _ _ (by kernel_rfl)] at h
  have h4 := h.tail.tail.tail
  obtain ⟨a1, s1, hv1, _, _, _⟩ := laid_sentinel h4 gRan tRan Tryd.underlying52 rowErr Tryd.underlying88 Tryd.underlying90 rfl rfl Tryd.underlying9 cErr cStr
  obtain ⟨a2, s2, hv2, _, _, _⟩ := laid_sentinel h4.tail gSyn tSyn Tryd.underlying52 rowErr Tryd.underlying88 Tryd.underlying90 rfl rfl Tryd.underlying9 cErr cStr
  have x1 := World.var?_cell gSyn hv2 0
  have x2 := World.var?_cell gRan hv1 0
  exact ⟨⟨_, _, x1.trans (by rfl)⟩, _, _, x2.trans (by rfl)⟩
end Go.Proofs.YtjobncfjebkcdaaDoor
