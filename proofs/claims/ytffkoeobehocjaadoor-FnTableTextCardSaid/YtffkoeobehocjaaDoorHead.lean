/- Three facts on the head of this seat's translation: a row may enter over it. No condition. The head's text is named by the numbers of its letters. -/
import Derived.Test.YtffkoeobehocjaaDoorRows
import Derived.JoinedOf
namespace Go.Proofs.YtffkoeobehocjaaDoor
set_option maxRecDepth 100000
def headNats : List Nat := [104, 97, 114, 110, 101, 115, 115, 32, 51, 102, 54, 48, 51, 57, 50, 99, 49, 49, 49, 101, 97, 97, 99, 56, 53, 100, 55, 53, 56, 57, 52, 101, 50, 52, 102, 57, 98, 55, 49, 51, 52, 56, 49, 53, 100, 97, 49, 55, 53, 52, 102, 98, 48, 100, 55, 53, 97, 97, 53, 99, 48, 51, 48, 101, 98, 102, 55, 57, 99, 99, 100, 100, 32, 99, 117, 116, 32, 97, 116, 32, 108, 111, 111, 112, 46, 101, 120, 97, 109, 112, 108, 101, 47, 114, 101, 118, 101, 114, 115, 105, 98, 108, 101, 99, 105, 114, 99, 117, 105, 116, 115, 47, 108, 97, 119, 115, 46, 70, 110, 69, 120, 97, 99, 116, 82, 101, 97, 100, 84, 97, 98, 108, 101, 32, 108, 111, 111, 112, 46, 101, 120, 97, 109, 112, 108, 101, 47, 114, 101, 118, 101, 114, 115, 105, 98, 108, 101, 99, 105, 114, 99, 117, 105, 116, 115, 47, 108, 97, 119, 115, 46, 70, 110, 84, 97, 98, 108, 101, 84, 101, 120, 116, 32, 108, 111, 111, 112, 46, 101, 120, 97, 109, 112, 108, 101, 47, 114, 101, 118, 101, 114, 115, 105, 98, 108, 101, 99, 105, 114, 99, 117, 105, 116, 115, 47, 108, 97, 119, 115, 46, 70, 110, 82, 101, 97, 100, 84, 97, 98, 108, 101, 32, 108, 111, 111, 112, 46, 101, 120, 97, 109, 112, 108, 101, 47, 114, 101, 118, 101, 114, 115, 105, 98, 108, 101, 99, 105, 114, 99, 117, 105, 116, 115, 47, 108, 97, 119, 115, 46, 70, 110, 69, 120, 97, 99, 116, 84, 97, 98, 108, 101, 84, 101, 120, 116, 32, 108, 111, 111, 112, 46, 101, 120, 97, 109, 112, 108, 101, 47, 114, 101, 118, 101, 114, 115, 105, 98, 108, 101, 99, 105, 114, 99, 117, 105, 116, 115, 47, 108, 97, 119, 115, 46, 70, 110, 69, 120, 97, 99, 116, 71, 97, 116, 101, 84, 101, 120, 116, 32, 108, 111, 111, 112, 46, 101, 120, 97, 109, 112, 108, 101, 47, 114, 101, 118, 101, 114, 115, 105, 98, 108, 101, 99, 105, 114, 99, 117, 105, 116, 115, 47, 108, 97, 119, 115, 46, 70, 110, 69, 120, 97, 99, 116, 82, 101, 97, 100, 71, 97, 116, 101, 32, 108, 111, 111, 112, 46, 101, 120, 97, 109, 112, 108, 101, 47, 114, 101, 118, 101, 114, 115, 105, 98, 108, 101, 99, 105, 114, 99, 117, 105, 116, 115, 47, 108, 97, 119, 115, 46, 70, 110, 71, 97, 116, 101, 84, 101, 120, 116, 32, 108, 111, 111, 112, 46, 101, 120, 97, 109, 112, 108, 101, 47, 114, 101, 118, 101, 114, 115, 105, 98, 108, 101, 99, 105, 114, 99, 117, 105, 116, 115, 47, 108, 97, 119, 115, 46, 70, 110, 82, 101, 97, 100, 71, 97, 116, 101]
theorem initO : Tryd.prog.initOrder = String.ofList (headNats.map Char.ofNat) := by kernel_rfl
theorem initL : Tryd.pinned.checked.prog.initOrder.toList = headNats.map Char.ofNat := by
  show Tryd.prog.initOrder.toList = _
  rw [initO, String.toList_ofList]
theorem headW : (behindMainWord (wordsSigns (headNats.map Char.ofNat))).head? = some ("cut".toList) := by kernel_rfl
theorem headC : ∃ rest, behindMainWord (wordsSigns Tryd.pinned.checked.prog.initOrder.toList) = "cut".toList :: rest := by
  rw [initL]
  have h := headW
  generalize behindMainWord (wordsSigns (headNats.map Char.ofNat)) = l at h
  cases l with
  | nil => cases h
  | cons a r => simp only [List.head?_cons, Option.some.injEq] at h; exact ⟨r, by rw [h]⟩
theorem stripC (rest : List (List Char)) : stripLifts liftWords ("cut".toList :: rest) = ([], "cut".toList :: rest) := by kernel_rfl
theorem laysLaterT : Tryd.pinned.checked.prog.laysLater = false := by kernel_rfl
theorem bearsReflectT : Tryd.pinned.checked.prog.bearsReflect = false := by kernel_rfl
theorem doorFitsT : Tryd.pinned.checked.prog.doorFits [] = true := by kernel_rfl
theorem mayEnter_of (P : Program) {rest : List (List Char)} (h : behindMainWord (wordsSigns P.initOrder.toList) = "cut".toList :: rest) (h1 : P.laysLater = false) (h2 : P.bearsReflect = false) (h3 : P.doorFits [] = true) : P.mayEnter = true := by
  unfold Program.mayEnter
  rw [h]
  simp only [stripC, h1, h2, h3]
  kernel_rfl
theorem headLifts_of (P : Program) {rest : List (List Char)} (h : behindMainWord (wordsSigns P.initOrder.toList) = "cut".toList :: rest) : P.headLifts = [] := by
  unfold Program.headLifts
  rw [h]
  simp only [stripC]
  kernel_rfl
theorem lifts_of (P : Program) {rest : List (List Char)} (h : behindMainWord (wordsSigns P.initOrder.toList) = "cut".toList :: rest) : P.liftsFinal = false := by
  unfold Program.liftsFinal
  rw [h, headLifts_of P h]
  kernel_rfl
theorem make_of (P : Program) {rest : List (List Char)} (h : behindMainWord (wordsSigns P.initOrder.toList) = "cut".toList :: rest) : P.make = some .cut := by
  unfold Program.make
  rw [h]
  kernel_rfl
theorem mayEnterT : Tryd.pinned.checked.prog.mayEnter = true := by
  obtain ⟨rest, h⟩ := headC
  exact mayEnter_of _ h laysLaterT bearsReflectT doorFitsT
theorem liftsT : Tryd.pinned.checked.prog.liftsFinal = false := by
  obtain ⟨rest, h⟩ := headC
  exact lifts_of _ h
theorem makeT : Tryd.pinned.checked.prog.make = some .cut := by
  obtain ⟨rest, h⟩ := headC
  exact make_of _ h
end Go.Proofs.YtffkoeobehocjaaDoor
