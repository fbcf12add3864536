/- The law PrinterFormats; what a text is parsed to. -/
import Derived.Test.YthkbnjojkeeffaaDoorGr
import Derived.Test.YthkbnjojkeeffaaDoorGt
import Derived.Test.YthkbnjojkeeffaaDoorXv
import Derived.Test.YthkbnjojkeeffaaDoorXm
namespace Go.Proofs.YthkbnjojkeeffaaDoor
open Go Go.RowKit Go.Shelf
set_option linter.unusedSimpArgs false

set_option maxHeartbeats 8000000 in
set_option maxRecDepth 100000 in
theorem law_formats (w : World) (s : ByteArray) (hs : s.size ≤ 9223372036854775807) (hw : Wd w) : Calls Tryd.prog 6 #[.string s] w (YesP w) := by
  have HW := Lib.hid hw
  clear hw
  by_cases hl : (2000 : Int) < (s.size : Int)
  · go_enter Tryd.func6, Tryd.ntmps6
    go_wp2_with fail
    refine (awake_any w HW.out).mono ?_
    rintro e w1 ⟨rfl, hb⟩
    go_wp2_with fail
    go_ret
    exact ⟨rfl, hb⟩
  have hl' : decide ((2000 : Int) < (s.size : Int)) = false := by simpa using hl
  clear hl
  have CF := Lib.hid (format_any w s hs HW.out (fun l h => parsed_ok h) (fun p k h => nz_parse h))
  have CR := Lib.hid (fun (y : World) => rformat_any y s hs (fun l h => parsed_ok h) (fun p k h => nz_parse h))
  have CA := Lib.hid (fun (y : World) (hy : Below w.heap.size w y) => awake_any y (HW.out.below hy HW.out.1))
  generalize fmtO s.data.toList = o at *
  obtain ⟨a, p, k⟩ := o
  simp only at CF CR
  generalize bs a = t at *
  generalize (p : Int) = p at *
  go_enter Tryd.func6, Tryd.ntmps6
  go_wp2_with fail
  refine CF.out.mono ?_
  rintro e w1 ⟨rfl, hb⟩
  have HB := Lib.hid hb
  clear hb CF
  go_wp2_with fail
  refine (CR.out w1).mono ?_
  rintro e w2 ⟨rfl, hb⟩
  have HB2 := Lib.hid (HB.out.trans (hb.mono HB.out.size))
  clear hb HB
  go_wp2_with fail
  refine (CA.out _ HB2.out).mono ?_
  rintro e w3 ⟨rfl, hb⟩
  have HB3 := Lib.hid (HB2.out.trans (hb.mono HB2.out.size))
  clear hb HB2
  go_wp2_with fail
  go_ret
  exact ⟨rfl, HB3.out⟩
end Go.Proofs.YthkbnjojkeeffaaDoor
