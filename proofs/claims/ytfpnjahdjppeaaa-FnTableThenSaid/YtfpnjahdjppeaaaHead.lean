/- Three facts on the head of this seat's translation: a row may enter over it. No condition. The head's text is named by the numbers of its letters. -/
import Derived.Test.YtfpnjahdjppeaaaRows
import Derived.JoinedOf
namespace Go.Proofs.Ytfpnjahdjppeaaa
set_option maxRecDepth 100000
def headNats : List Nat := [104, 97, 114, 110, 101, 115, 115, 32, 55, 52, 49, 52, 56, 55, 100, 97, 51, 50, 100, 52, 57, 102, 101, 55, 102, 54, 101, 48, 54, 55, 50, 55, 100, 101, 51, 102, 97, 102, 54, 98, 102, 97, 54, 53, 53, 98, 102, 100, 53, 49, 53, 51, 55, 97, 57, 51, 101, 55, 56, 51, 98, 51, 102, 101, 101, 57, 98, 53, 49, 97, 54, 100, 32, 99, 117, 116, 32, 97, 116, 32, 108, 111, 111, 112, 46, 101, 120, 97, 109, 112, 108, 101, 47, 114, 101, 118, 101, 114, 115, 105, 98, 108, 101, 99, 105, 114, 99, 117, 105, 116, 115, 47, 108, 97, 119, 115, 46, 70, 110, 84, 97, 98, 108, 101, 86, 97, 108, 105, 100, 32, 108, 111, 111, 112, 46, 101, 120, 97, 109, 112, 108, 101, 47, 114, 101, 118, 101, 114, 115, 105, 98, 108, 101, 99, 105, 114, 99, 117, 105, 116, 115, 47, 108, 97, 119, 115, 46, 70, 110, 84, 97, 98, 108, 101, 66, 97, 99, 107, 32, 108, 111, 111, 112, 46, 101, 120, 97, 109, 112, 108, 101, 47, 114, 101, 118, 101, 114, 115, 105, 98, 108, 101, 99, 105, 114, 99, 117, 105, 116, 115, 47, 108, 97, 119, 115, 46, 70, 110, 84, 97, 98, 108, 101, 67, 121, 99, 108, 101, 115, 32, 108, 111, 111, 112, 46, 101, 120, 97, 109, 112, 108, 101, 47, 114, 101, 118, 101, 114, 115, 105, 98, 108, 101, 99, 105, 114, 99, 117, 105, 116, 115, 47, 108, 97, 119, 115, 46, 70, 110, 84, 97, 98, 108, 101, 84, 104, 101, 110, 32, 108, 111, 111, 112, 46, 101, 120, 97, 109, 112, 108, 101, 47, 114, 101, 118, 101, 114, 115, 105, 98, 108, 101, 99, 105, 114, 99, 117, 105, 116, 115, 47, 108, 97, 119, 115, 46, 70, 110, 84, 97, 98, 108, 101, 79, 114, 100, 101, 114]
theorem initO : Try.prog.initOrder = String.ofList (headNats.map Char.ofNat) := by kernel_rfl
theorem initL : Try.pinned.checked.prog.initOrder.toList = headNats.map Char.ofNat := by
  show Try.prog.initOrder.toList = _
  rw [initO, String.toList_ofList]
theorem headW : (behindMainWord (wordsSigns (headNats.map Char.ofNat))).head? = some ("cut".toList) := by kernel_rfl
theorem headC : ∃ rest, behindMainWord (wordsSigns Try.pinned.checked.prog.initOrder.toList) = "cut".toList :: rest := by
  rw [initL]
  have h := headW
  generalize behindMainWord (wordsSigns (headNats.map Char.ofNat)) = l at h
  cases l with
  | nil => cases h
  | cons a r => simp only [List.head?_cons, Option.some.injEq] at h; exact ⟨r, by rw [h]⟩
theorem stripC (rest : List (List Char)) : stripLifts liftWords ("cut".toList :: rest) = ([], "cut".toList :: rest) := by kernel_rfl
theorem laysLaterT : Try.pinned.checked.prog.laysLater = false := by kernel_rfl
theorem bearsReflectT : Try.pinned.checked.prog.bearsReflect = false := by kernel_rfl
theorem doorFitsT : Try.pinned.checked.prog.doorFits [] = true := by kernel_rfl
theorem mayEnter_of (P : Program) {rest : List (List Char)} (h : behindMainWord (wordsSigns P.initOrder.toList) = "cut".toList :: rest) (h1 : P.laysLater = false) (h2 : P.bearsReflect = false) (h3 : P.doorFits [] = true) : P.mayEnter = true := by
  unfold Program.mayEnter
  rw [h]
  simp only [stripC, h1, h2, h3]
  kernel_rfl
theorem headLifts_of (P : Program) {rest : List (List Char)} (h : behindMainWord (wordsSigns P.initOrder.toList) = "cut".toList :: rest) : P.headLifts = [] := by
  unfold Program.headLifts
  rw [h]
  simp only [stripC]
  kernel_rfl
theorem lifts_of (P : Program) {rest : List (List Char)} (h : behindMainWord (wordsSigns P.initOrder.toList) = "cut".toList :: rest) : P.liftsFinal = false := by
  unfold Program.liftsFinal
  rw [h, headLifts_of P h]
  kernel_rfl
theorem make_of (P : Program) {rest : List (List Char)} (h : behindMainWord (wordsSigns P.initOrder.toList) = "cut".toList :: rest) : P.make = some .cut := by
  unfold Program.make
  rw [h]
  kernel_rfl
theorem mayEnterT : Try.pinned.checked.prog.mayEnter = true := by
  obtain ⟨rest, h⟩ := headC
  exact mayEnter_of _ h laysLaterT bearsReflectT doorFitsT
theorem liftsT : Try.pinned.checked.prog.liftsFinal = false := by
  obtain ⟨rest, h⟩ := headC
  exact lifts_of _ h
theorem makeT : Try.pinned.checked.prog.make = some .cut := by
  obtain ⟨rest, h⟩ := headC
  exact make_of _ h
end Go.Proofs.Ytfpnjahdjppeaaa
