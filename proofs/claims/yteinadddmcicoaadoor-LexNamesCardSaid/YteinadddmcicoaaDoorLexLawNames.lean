/- The law LexNames answers true. -/
import Derived.Test.YteinadddmcicoaaDoorLexAlive
import Derived.Test.YteinadddmcicoaaDoorLexRefName
namespace Go.Proofs.YteinadddmcicoaaDoor
open Go.RowKit Go.Shelf

set_option maxHeartbeats 3200000 in
theorem lexNames_any (s : ByteArray) (hs : s.size ≤ 140737488351232) (w : World) (hH : Has w) :
    Calls Tryd.prog 3 #[.string s] w fun e w' => e = .returned (.bool true) ∧ Below w.heap.size w w' := by
  have C1 := Lib.hid (fun w hh => word_any s (by omega) w hh)
  have C2 := Lib.hid (fun w => refWord_any s w)
  have C3 := Lib.hid (fun w hh => name_any s (by omega) w hh)
  have C4 := Lib.hid (fun w => refName_any s w)
  have CA := Lib.hid (alive_any w hH)
  generalize LexPlain.isWord s.data.toList = q1 at C1 C2
  generalize LexPlain.isName s.data.toList = q2 at C3 C4
  have z1 : (q1 == q1) = true := by simp
  have z2 : (q2 == q2) = true := by simp
  go_enter Tryd.func3, Tryd.ntmps3
  go_wp2_with fail
  refine (C1.out _ hH).mono ?_
  rintro e w1 ⟨rfl, rfl⟩
  go_wp2_with fail
  refine (C2.out _).mono ?_
  rintro e w1 ⟨rfl, rfl⟩
  go_wp2_with fail
  refine (C3.out _ hH).mono ?_
  rintro e w1 ⟨rfl, rfl⟩
  go_wp2_with fail
  refine (C4.out _).mono ?_
  rintro e w1 ⟨rfl, rfl⟩
  go_wp2_with fail
  refine CA.out.mono ?_
  rintro e w1 ⟨rfl, hb⟩
  go_wp2_with fail
  go_returns
  exact ⟨rfl, hb⟩
end Go.Proofs.YteinadddmcicoaaDoor
