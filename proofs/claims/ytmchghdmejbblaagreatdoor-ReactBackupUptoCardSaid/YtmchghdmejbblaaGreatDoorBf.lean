/- The seat's tables; facts of its types. -/
import Derived.Test.YtmchghdmejbblaaGreatDoorBh
import Derived.Test.YtmchghdmejbblaaGreatDoorAm
set_option linter.unusedSimpArgs false
set_option linter.unusedVariables false
noncomputable section
namespace Go.Proofs.YtmchghdmejbblaaGreatDoor
open Go Go.Ab Go.RowKit

def zq (f : FuncId) : Option AV := match Nat.beq f 40 with
  | true => some (.bool true)
  | false => none
def Mq : Mac := ⟨tb, gf, extA, zq⟩

theorem und61 : und Mq.T 61 = some (.slice 81) := by kernel_rfl
theorem und62 : und Mq.T 62 = some (.slice 40) := by kernel_rfl
theorem und40 : und Mq.T 40 = some (.slice 3) := by kernel_rfl
theorem und79 : und Mq.T 79 = some (.slice 87) := by kernel_rfl
theorem sz61 : sizeA Mq.T 61 = some 1 := by kernel_rfl
theorem sz62 : sizeA Mq.T 62 = some 1 := by kernel_rfl
theorem sz40 : sizeA Mq.T 40 = some 1 := by kernel_rfl
theorem sz79 : sizeA Mq.T 79 = some 1 := by kernel_rfl
theorem sz3 : sizeA Mq.T 3 = some 1 := by kernel_rfl
theorem sz4 : sizeA Mq.T 4 = some 1 := by kernel_rfl
theorem sz28 : sizeA Mq.T 28 = some 1 := by kernel_rfl
theorem sz85 : sizeA Mq.T 85 = some 1 := by kernel_rfl
theorem sz81 : sizeA Mq.T 81 = some 2 := by kernel_rfl
theorem sz64 : sizeA Mq.T 64 = some 4 := by kernel_rfl
theorem sz87 : sizeA Mq.T 87 = some 12 := by kernel_rfl
theorem ag61 : isAggA Mq.T 61 = some false := by kernel_rfl
theorem ag62 : isAggA Mq.T 62 = some false := by kernel_rfl
theorem ag40 : isAggA Mq.T 40 = some false := by kernel_rfl
theorem ag79 : isAggA Mq.T 79 = some false := by kernel_rfl
theorem ag3 : isAggA Mq.T 3 = some false := by kernel_rfl
theorem ag4 : isAggA Mq.T 4 = some false := by kernel_rfl
theorem ag28 : isAggA Mq.T 28 = some false := by kernel_rfl
theorem ag85 : isAggA Mq.T 85 = some false := by kernel_rfl
theorem ag81 : isAggA Mq.T 81 = some true := by kernel_rfl
theorem ag64 : isAggA Mq.T 64 = some true := by kernel_rfl
theorem ag87 : isAggA Mq.T 87 = some true := by kernel_rfl
section
variable {id ver off : Nat}
theorem fa64_0 : fieldAddrA Mq.T 64 (.ptr id ver off) 0 = some (.ptr id ver (off + 0)) := by kernel_rfl
theorem fa64_1 : fieldAddrA Mq.T 64 (.ptr id ver off) 1 = some (.ptr id ver (off + 1)) := by kernel_rfl
theorem fa64_2 : fieldAddrA Mq.T 64 (.ptr id ver off) 2 = some (.ptr id ver (off + 2)) := by kernel_rfl
theorem fa64_3 : fieldAddrA Mq.T 64 (.ptr id ver off) 3 = some (.ptr id ver (off + 3)) := by kernel_rfl
theorem fa81_0 : fieldAddrA Mq.T 81 (.ptr id ver off) 0 = some (.ptr id ver (off + 0)) := by kernel_rfl
theorem fa81_1 : fieldAddrA Mq.T 81 (.ptr id ver off) 1 = some (.ptr id ver (off + 1)) := by kernel_rfl
theorem fa87_0 : fieldAddrA Mq.T 87 (.ptr id ver off) 0 = some (.ptr id ver (off + 0)) := by kernel_rfl
theorem fa87_1 : fieldAddrA Mq.T 87 (.ptr id ver off) 1 = some (.ptr id ver (off + 1)) := by kernel_rfl
theorem fr81_0 : fieldAddrA Mq.T 81 (.rptr id off) 0 = some (.rptr id (off + 0)) := by kernel_rfl
theorem fr81_1 : fieldAddrA Mq.T 81 (.rptr id off) 1 = some (.rptr id (off + 1)) := by kernel_rfl
theorem fr87_0 : fieldAddrA Mq.T 87 (.rptr id off) 0 = some (.rptr id (off + 0)) := by kernel_rfl
theorem fr87_1 : fieldAddrA Mq.T 87 (.rptr id off) 1 = some (.rptr id (off + 1)) := by kernel_rfl
end
end Go.Proofs.YtmchghdmejbblaaGreatDoor
