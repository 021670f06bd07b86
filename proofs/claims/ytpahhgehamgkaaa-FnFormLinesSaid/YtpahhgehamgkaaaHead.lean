/- Three facts on the head of this seat's translation: a row may enter over it. No condition. The head's text is named by the numbers of its letters. -/
import Derived.Test.YtpahhgehamgkaaaRows
import Derived.JoinedOf
namespace Go.Proofs.Ytpahhgehamgkaaa
set_option maxRecDepth 100000
def headNats : List Nat := [104, 97, 114, 110, 101, 115, 115, 32, 102, 51, 52, 52, 51, 101, 52, 53, 97, 97, 100, 49, 100, 100, 101, 98, 49, 49, 48, 51, 56, 57, 97, 101, 97, 97, 51, 52, 51, 55, 52, 50, 97, 97, 99, 56, 97, 101, 48, 48, 57, 48, 48, 48, 51, 53, 102, 56, 101, 97, 57, 54, 100, 53, 52, 56, 48, 53, 50, 97, 100, 53, 52, 56, 32, 99, 117, 116, 32, 97, 116, 32, 108, 111, 111, 112, 46, 101, 120, 97, 109, 112, 108, 101, 47, 114, 101, 118, 101, 114, 115, 105, 98, 108, 101, 99, 105, 114, 99, 117, 105, 116, 115, 47, 108, 97, 119, 115, 46, 70, 110, 69, 120, 97, 99, 116, 85, 115, 101, 108, 101, 115, 115, 80, 97, 105, 114, 32, 108, 111, 111, 112, 46, 101, 120, 97, 109, 112, 108, 101, 47, 114, 101, 118, 101, 114, 115, 105, 98, 108, 101, 99, 105, 114, 99, 117, 105, 116, 115, 47, 108, 97, 119, 115, 46, 70, 110, 69, 120, 97, 99, 116, 67, 105, 114, 99, 117, 105, 116, 83, 104, 111, 114, 116, 32, 108, 111, 111, 112, 46, 101, 120, 97, 109, 112, 108, 101, 47, 114, 101, 118, 101, 114, 115, 105, 98, 108, 101, 99, 105, 114, 99, 117, 105, 116, 115, 47, 108, 97, 119, 115, 46, 70, 110, 69, 120, 97, 99, 116, 83, 116, 101, 112, 71, 97, 116, 101, 115, 32, 108, 111, 111, 112, 46, 101, 120, 97, 109, 112, 108, 101, 47, 114, 101, 118, 101, 114, 115, 105, 98, 108, 101, 99, 105, 114, 99, 117, 105, 116, 115, 47, 108, 97, 119, 115, 46, 70, 110, 70, 111, 114, 109, 76, 105, 110, 101, 115]
theorem initO : Try.prog.initOrder = String.ofList (headNats.map Char.ofNat) := by kernel_rfl
theorem initL : Try.pinned.checked.prog.initOrder.toList = headNats.map Char.ofNat := by
  show Try.prog.initOrder.toList = _
  rw [initO, String.toList_ofList]
theorem headW : (behindMainWord (wordsSigns (headNats.map Char.ofNat))).head? = some ("cut".toList) := by kernel_rfl
theorem headC : ∃ rest, behindMainWord (wordsSigns Try.pinned.checked.prog.initOrder.toList) = "cut".toList :: rest := by
  rw [initL]
  have h := headW
  generalize behindMainWord (wordsSigns (headNats.map Char.ofNat)) = l at h
  cases l with
  | nil => cases h
  | cons a r => simp only [List.head?_cons, Option.some.injEq] at h; exact ⟨r, by rw [h]⟩
theorem stripC (rest : List (List Char)) : stripLifts liftWords ("cut".toList :: rest) = ([], "cut".toList :: rest) := by kernel_rfl
theorem laysLaterT : Try.pinned.checked.prog.laysLater = false := by kernel_rfl
theorem bearsReflectT : Try.pinned.checked.prog.bearsReflect = false := by kernel_rfl
theorem doorFitsT : Try.pinned.checked.prog.doorFits [] = true := by kernel_rfl
theorem mayEnter_of (P : Program) {rest : List (List Char)} (h : behindMainWord (wordsSigns P.initOrder.toList) = "cut".toList :: rest) (h1 : P.laysLater = false) (h2 : P.bearsReflect = false) (h3 : P.doorFits [] = true) : P.mayEnter = true := by
  unfold Program.mayEnter
  rw [h]
  simp only [stripC, h1, h2, h3]
  kernel_rfl
theorem headLifts_of (P : Program) {rest : List (List Char)} (h : behindMainWord (wordsSigns P.initOrder.toList) = "cut".toList :: rest) : P.headLifts = [] := by
  unfold Program.headLifts
  rw [h]
  simp only [stripC]
  kernel_rfl
theorem lifts_of (P : Program) {rest : List (List Char)} (h : behindMainWord (wordsSigns P.initOrder.toList) = "cut".toList :: rest) : P.liftsFinal = false := by
  unfold Program.liftsFinal
  rw [h, headLifts_of P h]
  kernel_rfl
theorem make_of (P : Program) {rest : List (List Char)} (h : behindMainWord (wordsSigns P.initOrder.toList) = "cut".toList :: rest) : P.make = some .cut := by
  unfold Program.make
  rw [h]
  kernel_rfl
theorem mayEnterT : Try.pinned.checked.prog.mayEnter = true := by
  obtain ⟨rest, h⟩ := headC
  exact mayEnter_of _ h laysLaterT bearsReflectT doorFitsT
theorem liftsT : Try.pinned.checked.prog.liftsFinal = false := by
  obtain ⟨rest, h⟩ := headC
  exact lifts_of _ h
theorem makeT : Try.pinned.checked.prog.make = some .cut := by
  obtain ⟨rest, h⟩ := headC
  exact make_of _ h
end Go.Proofs.Ytpahhgehamgkaaa
