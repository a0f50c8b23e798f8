/-
  The tie of the row's listed variables to the program's text, in parts. No condition.
-/
import Derived.Test.YtaojoifpekoecaaGreatDoorRows
import Derived.LaidByTextLater
import Derived.SevenTiedAt
namespace Go.Proofs.YtaojoifpekoecaaGreatDoor
open Go

noncomputable def LL : List (String × DataW Unit) := [("internal/strconv.uint64pow10", Rows.laid_internal_strconv_uint64pow10), ("math/bits.deBruijn32tab", Rows.laid_math_bits_deBruijn32tab), ("math/bits.deBruijn64tab", Rows.laid_math_bits_deBruijn64tab), ("unicode/utf8.acceptRanges", Rows.laid_unicode_utf8_acceptRanges), ("strconv.ErrSyntax", Rows.laid_strconv_ErrSyntax), ("strconv.ErrRange", Rows.laid_strconv_ErrRange)]
def KK : List LaidKind := [.data, .data, .data, .data, .sentinel, .sentinel]
theorem c1 : Tryz.prog.worded (varsWordLater true) = true := by kernel_rfl
theorem c2 : Tryz.prog.worded (varsWordLater !true) = false := by kernel_rfl
theorem c3 : Tryz.prog.worded rootWordLater = true := by kernel_rfl
theorem c4 : LL.map (fun x => Tryz.prog.kindOfLater x.1) = KK.map some := by kernel_rfl
theorem v740 : Tryz.prog.funcNamed "gosem.cut.vars" = some 740 := by kernel_rfl
theorem vId : varsId Tryz.prog = 740 := by
  unfold varsId
  rw [v740]
  rfl
theorem c5 : (Tryz.prog.funcNamed "gosem.cut.vars").isSome = true := by
  rw [v740]
  rfl
theorem c6 : varsNamedLaterB Tryz.prog (varsId Tryz.prog) LL = true := by
  rw [vId]
  kernel_rfl
theorem c7' : ∀ os tape, varsDone Tryz.prog 400 740 os tape = true := fun _ _ => by kernel_rfl
theorem c7 : ∀ os tape, varsDone Tryz.prog 400 (varsId Tryz.prog) os tape = true := by
  rw [vId]
  exact c7'
theorem c8' : ∀ os tape, (DataW.laidRun Tryz.prog (varsWorld Tryz.prog 400 740 os tape).memory 8 (LL.map (·.1))).map (·.1) = some LL := fun _ _ => by kernel_rfl
theorem c8 : ∀ os tape, (DataW.laidRun Tryz.prog (varsWorld Tryz.prog 400 (varsId Tryz.prog) os tape).memory 8 (LL.map (·.1))).map (·.1) = some LL := by
  rw [vId]
  exact c8'
theorem c9' : ∀ os tape, (DataW.laidRun Tryz.prog (varsWorld Tryz.prog 400 740 os tape).memory 8 (LL.map (·.1))).map (fun x => decide x.2.Nodup && laidRowsB Tryz.prog (varsWorld Tryz.prog 400 740 os tape).memory x.2) = some true := fun _ _ => by kernel_rfl
theorem c9 : ∀ os tape, (DataW.laidRun Tryz.prog (varsWorld Tryz.prog 400 (varsId Tryz.prog) os tape).memory 8 (LL.map (·.1))).map (fun x => decide x.2.Nodup && laidRowsB Tryz.prog (varsWorld Tryz.prog 400 (varsId Tryz.prog) os tape).memory x.2) = some true := by
  rw [vId]
  exact c9'
theorem tie : Tryz.prog.laidByTextLater LL KK true := Program.laidByTextLater_by_run 400 8 c1 c2 c3 c4 c5 c6 c7 c8 c9
theorem pinFirst : Tryz.pinned.checked.prog.pinnedFits "unicode/utf8.first" = true := by kernel_rfl
theorem noOwnUnsafe : Tryz.pinned.checked.prog.headLifts.contains "ownunsafe" = false := by kernel_rfl
theorem fits1 : Tryz.pinned.checked.prog.listedFits Rows.scriptTellsRow.laid = true := by
  unfold Program.listedFits
  rw [noOwnUnsafe]
  kernel_rfl
theorem row_tie : Rows.scriptTellsRow.laidByTextAt .later Tryz.pinned [.data, .data, .data, .pinned, .data, .sentinel, .sentinel] true :=
  OpenClaim.laidByTextAt_pinned rfl rfl tie rfl rfl rfl rfl (fun y hy _e => by
    simp only [Rows.scriptTellsRow, List.zip_cons_cons, List.zip_nil_right, List.mem_cons, List.mem_nil_iff, or_false] at hy
    rcases hy with rfl | rfl | rfl | rfl | rfl | rfl | rfl
    · cases _e
    · cases _e
    · cases _e
    · exact ⟨pinFirst, by kernel_rfl⟩
    · cases _e
    · cases _e
    · cases _e) fits1
end Go.Proofs.YtaojoifpekoecaaGreatDoor

