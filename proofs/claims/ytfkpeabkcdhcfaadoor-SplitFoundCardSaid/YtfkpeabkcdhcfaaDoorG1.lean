/-
  The kernel's run, part 1: the first words of the draws of splits of at most twelve parts.
-/
import Derived.Test.YtfkpeabkcdhcfaaDoorV5
namespace Go.Proofs.YtfkpeabkcdhcfaaDoor
theorem far_0_0_2 : Far [128] 0 2 0 1 := by
  apply far_of
  · apply upto41 <;> decide +kernel
  all_goals decide +kernel
theorem far_0_1_2 : Far [128] 1 2 0 1 := by
  apply far_of
  · apply upto41 <;> decide +kernel
  all_goals decide +kernel
theorem far_0_2_2 : Far [128] 2 2 0 1 := by
  apply far_of
  · apply upto41 <;> decide +kernel
  all_goals decide +kernel
theorem far_0_3_2 : Far [128] 3 2 0 1 := by
  apply far_of
  · apply upto41 <;> decide +kernel
  all_goals decide +kernel
theorem far_0_4_2 : Far [128] 4 2 0 1 := by
  apply far_of
  · apply upto41 <;> decide +kernel
  all_goals decide +kernel
theorem far_0_5_2 : Far [128] 5 2 0 1 := by
  apply far_of
  · apply upto41 <;> decide +kernel
  all_goals decide +kernel
theorem far_0_6_2 : Far [128] 6 2 0 1 := by
  apply far_of
  · apply upto41 <;> decide +kernel
  all_goals decide +kernel
theorem far_0_7_2 : Far [128] 7 2 0 1 := by
  apply far_of
  · apply upto41 <;> decide +kernel
  all_goals decide +kernel
theorem far_0_8_2 : Far [128] 8 2 0 1 := by
  apply far_of
  · apply upto41 <;> decide +kernel
  all_goals decide +kernel
theorem far_0_9_2 : Far [128] 9 2 0 1 := by
  apply far_of
  · apply upto41 <;> decide +kernel
  all_goals decide +kernel
theorem far_0_10_2 : Far [128] 10 2 0 1 := by
  apply far_of
  · apply upto41 <;> decide +kernel
  all_goals decide +kernel
theorem far_0_0_3 : Far [128] 0 3 0 1 := by
  apply far_of
  · apply upto41 <;> decide +kernel
  all_goals decide +kernel
theorem far_0_2_3 : Far [128] 2 3 0 1 := by
  apply far_of
  · apply upto41 <;> decide +kernel
  all_goals decide +kernel
theorem far_0_3_3 : Far [128] 3 3 0 1 := by
  apply far_of
  · apply upto41 <;> decide +kernel
  all_goals decide +kernel
theorem far_0_5_3 : Far [128] 5 3 0 1 := by
  apply far_of
  · apply upto41 <;> decide +kernel
  all_goals decide +kernel
theorem far_0_6_3 : Far [128] 6 3 0 1 := by
  apply far_of
  · apply upto41 <;> decide +kernel
  all_goals decide +kernel
theorem far_0_7_3 : Far [128] 7 3 0 1 := by
  apply far_of
  · apply upto41 <;> decide +kernel
  all_goals decide +kernel
theorem far_0_8_3 : Far [128] 8 3 0 1 := by
  apply far_of
  · apply upto41 <;> decide +kernel
  all_goals decide +kernel
theorem far_0_9_3 : Far [128] 9 3 0 1 := by
  apply far_of
  · apply upto41 <;> decide +kernel
  all_goals decide +kernel
theorem far_0_0_4 : Far [128] 0 4 0 1 := by
  apply far_of
  · apply upto41 <;> decide +kernel
  all_goals decide +kernel
theorem far_0_3_4 : Far [128] 3 4 0 1 := by
  apply far_of
  · apply upto41 <;> decide +kernel
  all_goals decide +kernel
theorem far_0_4_4 : Far [128] 4 4 0 1 := by
  apply far_of
  · apply upto41 <;> decide +kernel
  all_goals decide +kernel
theorem far_0_0_5 : Far [128] 0 5 0 1 := by
  apply far_of
  · apply upto41 <;> decide +kernel
  all_goals decide +kernel
theorem far_0_4_5 : Far [128] 4 5 0 1 := by
  apply far_of
  · apply upto41 <;> decide +kernel
  all_goals decide +kernel
theorem far_0_5_5 : Far [128] 5 5 0 1 := by
  apply far_of
  · apply upto41 <;> decide +kernel
  all_goals decide +kernel
theorem far_0_0_6 : Far [128] 0 6 0 1 := by
  apply far_of
  · apply upto41 <;> decide +kernel
  all_goals decide +kernel
theorem far_0_5_6 : Far [128] 5 6 0 1 := by
  apply far_of
  · apply upto41 <;> decide +kernel
  all_goals decide +kernel
theorem far_0_6_6 : Far [128] 6 6 0 1 := by
  apply far_of
  · apply upto41 <;> decide +kernel
  all_goals decide +kernel
theorem far_0_0_7 : Far [128] 0 7 0 1 := by
  apply far_of
  · apply upto41 <;> decide +kernel
  all_goals decide +kernel
theorem far_0_0_8 : Far [128] 0 8 0 1 := by
  apply far_of
  · apply upto41 <;> decide +kernel
  all_goals decide +kernel
theorem far_0_0_9 : Far [128] 0 9 0 1 := by
  apply far_of
  · apply upto41 <;> decide +kernel
  all_goals decide +kernel
theorem far_0_0_10 : Far [128] 0 10 0 1 := by
  apply far_of
  · apply upto41 <;> decide +kernel
  all_goals decide +kernel
theorem far_0_0_11 : Far [128] 0 11 0 1 := by
  apply far_of
  · apply upto41 <;> decide +kernel
  all_goals decide +kernel
theorem far_0_0_12 : Far [128] 0 12 0 1 := by
  apply far_of
  · apply upto41 <;> decide +kernel
  all_goals decide +kernel
end Go.Proofs.YtfkpeabkcdhcfaaDoor
