/-
  The kernel's run, part 3: the first words of the draws of splits of at most twelve parts.
-/
import Derived.Test.YtfkpeabkcdhcfaaDoorV5
namespace Go.Proofs.YtfkpeabkcdhcfaaDoor
theorem far_2_0_2 : Far [129, 6, 115, 101, 101, 100, 32, 50] 0 2 0 1 := by
  apply far_of
  · apply upto41 <;> decide +kernel
  all_goals decide +kernel
theorem far_2_1_2 : Far [129, 6, 115, 101, 101, 100, 32, 50] 1 2 0 1 := by
  apply far_of
  · apply upto41 <;> decide +kernel
  all_goals decide +kernel
theorem far_2_2_2 : Far [129, 6, 115, 101, 101, 100, 32, 50] 2 2 0 1 := by
  apply far_of
  · apply upto41 <;> decide +kernel
  all_goals decide +kernel
theorem far_2_3_2 : Far [129, 6, 115, 101, 101, 100, 32, 50] 3 2 0 1 := by
  apply far_of
  · apply upto41 <;> decide +kernel
  all_goals decide +kernel
theorem far_2_4_2 : Far [129, 6, 115, 101, 101, 100, 32, 50] 4 2 0 1 := by
  apply far_of
  · apply upto41 <;> decide +kernel
  all_goals decide +kernel
theorem far_2_5_2 : Far [129, 6, 115, 101, 101, 100, 32, 50] 5 2 0 1 := by
  apply far_of
  · apply upto41 <;> decide +kernel
  all_goals decide +kernel
theorem far_2_6_2 : Far [129, 6, 115, 101, 101, 100, 32, 50] 6 2 0 1 := by
  apply far_of
  · apply upto41 <;> decide +kernel
  all_goals decide +kernel
theorem far_2_7_2 : Far [129, 6, 115, 101, 101, 100, 32, 50] 7 2 0 1 := by
  apply far_of
  · apply upto41 <;> decide +kernel
  all_goals decide +kernel
theorem far_2_8_2 : Far [129, 6, 115, 101, 101, 100, 32, 50] 8 2 0 1 := by
  apply far_of
  · apply upto41 <;> decide +kernel
  all_goals decide +kernel
theorem far_2_9_2 : Far [129, 6, 115, 101, 101, 100, 32, 50] 9 2 0 1 := by
  apply far_of
  · apply upto41 <;> decide +kernel
  all_goals decide +kernel
theorem far_2_10_2 : Far [129, 6, 115, 101, 101, 100, 32, 50] 10 2 0 1 := by
  apply far_of
  · apply upto41 <;> decide +kernel
  all_goals decide +kernel
theorem far_2_0_3 : Far [129, 6, 115, 101, 101, 100, 32, 50] 0 3 0 1 := by
  apply far_of
  · apply upto41 <;> decide +kernel
  all_goals decide +kernel
theorem far_2_2_3 : Far [129, 6, 115, 101, 101, 100, 32, 50] 2 3 0 1 := by
  apply far_of
  · apply upto41 <;> decide +kernel
  all_goals decide +kernel
theorem far_2_3_3 : Far [129, 6, 115, 101, 101, 100, 32, 50] 3 3 0 1 := by
  apply far_of
  · apply upto41 <;> decide +kernel
  all_goals decide +kernel
theorem far_2_5_3 : Far [129, 6, 115, 101, 101, 100, 32, 50] 5 3 0 1 := by
  apply far_of
  · apply upto41 <;> decide +kernel
  all_goals decide +kernel
theorem far_2_6_3 : Far [129, 6, 115, 101, 101, 100, 32, 50] 6 3 0 1 := by
  apply far_of
  · apply upto41 <;> decide +kernel
  all_goals decide +kernel
theorem far_2_7_3 : Far [129, 6, 115, 101, 101, 100, 32, 50] 7 3 0 1 := by
  apply far_of
  · apply upto41 <;> decide +kernel
  all_goals decide +kernel
theorem far_2_8_3 : Far [129, 6, 115, 101, 101, 100, 32, 50] 8 3 0 1 := by
  apply far_of
  · apply upto41 <;> decide +kernel
  all_goals decide +kernel
theorem far_2_9_3 : Far [129, 6, 115, 101, 101, 100, 32, 50] 9 3 0 1 := by
  apply far_of
  · apply upto41 <;> decide +kernel
  all_goals decide +kernel
theorem far_2_0_4 : Far [129, 6, 115, 101, 101, 100, 32, 50] 0 4 0 1 := by
  apply far_of
  · apply upto41 <;> decide +kernel
  all_goals decide +kernel
theorem far_2_3_4 : Far [129, 6, 115, 101, 101, 100, 32, 50] 3 4 0 1 := by
  apply far_of
  · apply upto41 <;> decide +kernel
  all_goals decide +kernel
theorem far_2_4_4 : Far [129, 6, 115, 101, 101, 100, 32, 50] 4 4 0 1 := by
  apply far_of
  · apply upto41 <;> decide +kernel
  all_goals decide +kernel
theorem far_2_0_5 : Far [129, 6, 115, 101, 101, 100, 32, 50] 0 5 0 1 := by
  apply far_of
  · apply upto41 <;> decide +kernel
  all_goals decide +kernel
theorem far_2_4_5 : Far [129, 6, 115, 101, 101, 100, 32, 50] 4 5 0 1 := by
  apply far_of
  · apply upto41 <;> decide +kernel
  all_goals decide +kernel
theorem far_2_5_5 : Far [129, 6, 115, 101, 101, 100, 32, 50] 5 5 0 1 := by
  apply far_of
  · apply upto41 <;> decide +kernel
  all_goals decide +kernel
theorem far_2_0_6 : Far [129, 6, 115, 101, 101, 100, 32, 50] 0 6 0 1 := by
  apply far_of
  · apply upto41 <;> decide +kernel
  all_goals decide +kernel
theorem far_2_5_6 : Far [129, 6, 115, 101, 101, 100, 32, 50] 5 6 0 1 := by
  apply far_of
  · apply upto41 <;> decide +kernel
  all_goals decide +kernel
theorem far_2_6_6 : Far [129, 6, 115, 101, 101, 100, 32, 50] 6 6 0 1 := by
  apply far_of
  · apply upto41 <;> decide +kernel
  all_goals decide +kernel
theorem far_2_0_7 : Far [129, 6, 115, 101, 101, 100, 32, 50] 0 7 0 1 := by
  apply far_of
  · apply upto41 <;> decide +kernel
  all_goals decide +kernel
theorem far_2_0_8 : Far [129, 6, 115, 101, 101, 100, 32, 50] 0 8 0 1 := by
  apply far_of
  · apply upto41 <;> decide +kernel
  all_goals decide +kernel
theorem far_2_0_9 : Far [129, 6, 115, 101, 101, 100, 32, 50] 0 9 0 1 := by
  apply far_of
  · apply upto41 <;> decide +kernel
  all_goals decide +kernel
theorem far_2_0_10 : Far [129, 6, 115, 101, 101, 100, 32, 50] 0 10 0 1 := by
  apply far_of
  · apply upto41 <;> decide +kernel
  all_goals decide +kernel
theorem far_2_0_11 : Far [129, 6, 115, 101, 101, 100, 32, 50] 0 11 0 1 := by
  apply far_of
  · apply upto41 <;> decide +kernel
  all_goals decide +kernel
theorem far_2_0_12 : Far [129, 6, 115, 101, 101, 100, 32, 50] 0 12 0 1 := by
  apply far_of
  · apply upto41 <;> decide +kernel
  all_goals decide +kernel
end Go.Proofs.YtfkpeabkcdhcfaaDoor
