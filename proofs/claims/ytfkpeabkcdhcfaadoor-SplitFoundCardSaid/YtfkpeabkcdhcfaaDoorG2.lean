/-
  The kernel's run, part 2: the first words of the draws of splits of at most twelve parts.
-/
import Derived.Test.YtfkpeabkcdhcfaaDoorV5
namespace Go.Proofs.YtfkpeabkcdhcfaaDoor
theorem far_1_0_2 : Far [129, 1, 115] 0 2 0 1 := by
  apply far_of
  · apply upto41 <;> decide +kernel
  all_goals decide +kernel
theorem far_1_1_2 : Far [129, 1, 115] 1 2 0 1 := by
  apply far_of
  · apply upto41 <;> decide +kernel
  all_goals decide +kernel
theorem far_1_2_2 : Far [129, 1, 115] 2 2 0 1 := by
  apply far_of
  · apply upto41 <;> decide +kernel
  all_goals decide +kernel
theorem far_1_3_2 : Far [129, 1, 115] 3 2 0 1 := by
  apply far_of
  · apply upto41 <;> decide +kernel
  all_goals decide +kernel
theorem far_1_4_2 : Far [129, 1, 115] 4 2 0 1 := by
  apply far_of
  · apply upto41 <;> decide +kernel
  all_goals decide +kernel
theorem far_1_5_2 : Far [129, 1, 115] 5 2 0 1 := by
  apply far_of
  · apply upto41 <;> decide +kernel
  all_goals decide +kernel
theorem far_1_6_2 : Far [129, 1, 115] 6 2 0 1 := by
  apply far_of
  · apply upto41 <;> decide +kernel
  all_goals decide +kernel
theorem far_1_7_2 : Far [129, 1, 115] 7 2 0 1 := by
  apply far_of
  · apply upto41 <;> decide +kernel
  all_goals decide +kernel
theorem far_1_8_2 : Far [129, 1, 115] 8 2 0 1 := by
  apply far_of
  · apply upto41 <;> decide +kernel
  all_goals decide +kernel
theorem far_1_9_2 : Far [129, 1, 115] 9 2 0 1 := by
  apply far_of
  · apply upto41 <;> decide +kernel
  all_goals decide +kernel
theorem far_1_10_2 : Far [129, 1, 115] 10 2 0 1 := by
  apply far_of
  · apply upto41 <;> decide +kernel
  all_goals decide +kernel
theorem far_1_0_3 : Far [129, 1, 115] 0 3 0 1 := by
  apply far_of
  · apply upto41 <;> decide +kernel
  all_goals decide +kernel
theorem far_1_2_3 : Far [129, 1, 115] 2 3 0 1 := by
  apply far_of
  · apply upto41 <;> decide +kernel
  all_goals decide +kernel
theorem far_1_3_3 : Far [129, 1, 115] 3 3 0 1 := by
  apply far_of
  · apply upto41 <;> decide +kernel
  all_goals decide +kernel
theorem far_1_5_3 : Far [129, 1, 115] 5 3 0 1 := by
  apply far_of
  · apply upto41 <;> decide +kernel
  all_goals decide +kernel
theorem far_1_6_3 : Far [129, 1, 115] 6 3 0 1 := by
  apply far_of
  · apply upto41 <;> decide +kernel
  all_goals decide +kernel
theorem far_1_7_3 : Far [129, 1, 115] 7 3 0 1 := by
  apply far_of
  · apply upto41 <;> decide +kernel
  all_goals decide +kernel
theorem far_1_8_3 : Far [129, 1, 115] 8 3 0 1 := by
  apply far_of
  · apply upto41 <;> decide +kernel
  all_goals decide +kernel
theorem far_1_9_3 : Far [129, 1, 115] 9 3 0 1 := by
  apply far_of
  · apply upto41 <;> decide +kernel
  all_goals decide +kernel
theorem far_1_0_4 : Far [129, 1, 115] 0 4 0 1 := by
  apply far_of
  · apply upto41 <;> decide +kernel
  all_goals decide +kernel
theorem far_1_3_4 : Far [129, 1, 115] 3 4 0 1 := by
  apply far_of
  · apply upto41 <;> decide +kernel
  all_goals decide +kernel
theorem far_1_4_4 : Far [129, 1, 115] 4 4 0 1 := by
  apply far_of
  · apply upto41 <;> decide +kernel
  all_goals decide +kernel
theorem far_1_0_5 : Far [129, 1, 115] 0 5 0 1 := by
  apply far_of
  · apply upto41 <;> decide +kernel
  all_goals decide +kernel
theorem far_1_4_5 : Far [129, 1, 115] 4 5 0 1 := by
  apply far_of
  · apply upto41 <;> decide +kernel
  all_goals decide +kernel
theorem far_1_5_5 : Far [129, 1, 115] 5 5 0 1 := by
  apply far_of
  · apply upto41 <;> decide +kernel
  all_goals decide +kernel
theorem far_1_0_6 : Far [129, 1, 115] 0 6 0 1 := by
  apply far_of
  · apply upto41 <;> decide +kernel
  all_goals decide +kernel
theorem far_1_5_6 : Far [129, 1, 115] 5 6 0 1 := by
  apply far_of
  · apply upto41 <;> decide +kernel
  all_goals decide +kernel
theorem far_1_6_6 : Far [129, 1, 115] 6 6 0 1 := by
  apply far_of
  · apply upto41 <;> decide +kernel
  all_goals decide +kernel
theorem far_1_0_7 : Far [129, 1, 115] 0 7 0 1 := by
  apply far_of
  · apply upto41 <;> decide +kernel
  all_goals decide +kernel
theorem far_1_0_8 : Far [129, 1, 115] 0 8 0 1 := by
  apply far_of
  · apply upto41 <;> decide +kernel
  all_goals decide +kernel
theorem far_1_0_9 : Far [129, 1, 115] 0 9 0 1 := by
  apply far_of
  · apply upto41 <;> decide +kernel
  all_goals decide +kernel
theorem far_1_0_10 : Far [129, 1, 115] 0 10 0 1 := by
  apply far_of
  · apply upto41 <;> decide +kernel
  all_goals decide +kernel
theorem far_1_0_11 : Far [129, 1, 115] 0 11 0 1 := by
  apply far_of
  · apply upto41 <;> decide +kernel
  all_goals decide +kernel
theorem far_1_0_12 : Far [129, 1, 115] 0 12 0 1 := by
  apply far_of
  · apply upto41 <;> decide +kernel
  all_goals decide +kernel
end Go.Proofs.YtfkpeabkcdhcfaaDoor
