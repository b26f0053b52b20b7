/-
  The kernel's run: the first words of the draws of great splits.
-/
import Derived.Test.YtfkpeabkcdhcfaaDoorV7
namespace Go.Proofs.YtfkpeabkcdhcfaaDoor
theorem lv0_a : gCh 59999 5536 1 0 0 1 3 524289 = true := by decide +kernel
theorem lv0_b : gCh 65535 1 1 0 0 1 4 524289 = true := by decide +kernel
theorem lv1_z : gCh 29999 2769 1 0 0 1 3 262145 = true := by decide +kernel
theorem lv1_1 : gLv 29999 2769 262145 1 1 = true := by decide +kernel
theorem lv2_z : gCh 14999 1385 1 0 0 1 3 131073 = true := by decide +kernel
theorem lv2_1 : gLv 14999 1385 131073 1 3 = true := by decide +kernel
theorem lv3_z : gCh 7499 693 1 0 0 1 3 65537 = true := by decide +kernel
theorem lv3_1 : gLv 7499 693 65537 1 7 = true := by decide +kernel
theorem lv4_z : gCh 3749 347 1 0 0 1 3 32769 = true := by decide +kernel
theorem lv4_1 : gLv 3749 347 32769 1 8 = true := by decide +kernel
theorem lv4_9 : gLv 3749 347 32769 9 7 = true := by decide +kernel
theorem lv5_z : gCh 1874 174 1 0 0 1 3 16385 = true := by decide +kernel
theorem lv5_1 : gLv 1874 174 16385 1 8 = true := by decide +kernel
theorem lv5_9 : gLv 1874 174 16385 9 8 = true := by decide +kernel
theorem lv5_17 : gLv 1874 174 16385 17 8 = true := by decide +kernel
theorem lv5_25 : gLv 1874 174 16385 25 7 = true := by decide +kernel
theorem lv6_z : gCh 936 88 1 0 0 1 3 8193 = true := by decide +kernel
theorem lv6_1 : gLv 936 88 8193 1 8 = true := by decide +kernel
theorem lv6_9 : gLv 936 88 8193 9 8 = true := by decide +kernel
theorem lv6_17 : gLv 936 88 8193 17 8 = true := by decide +kernel
theorem lv6_25 : gLv 936 88 8193 25 8 = true := by decide +kernel
theorem lv6_33 : gLv 936 88 8193 33 8 = true := by decide +kernel
theorem lv6_41 : gLv 936 88 8193 41 8 = true := by decide +kernel
theorem lv6_49 : gLv 936 88 8193 49 8 = true := by decide +kernel
theorem lv6_57 : gLv 936 88 8193 57 7 = true := by decide +kernel
theorem lv7_z : gCh 467 45 1 0 0 1 3 4097 = true := by decide +kernel
theorem lv7_1 : gLv 467 45 4097 1 8 = true := by decide +kernel
theorem lv7_9 : gLv 467 45 4097 9 8 = true := by decide +kernel
theorem lv7_17 : gLv 467 45 4097 17 8 = true := by decide +kernel
theorem lv7_25 : gLv 467 45 4097 25 8 = true := by decide +kernel
theorem lv7_33 : gLv 467 45 4097 33 8 = true := by decide +kernel
theorem lv7_41 : gLv 467 45 4097 41 8 = true := by decide +kernel
theorem lv7_49 : gLv 467 45 4097 49 8 = true := by decide +kernel
theorem lv7_57 : gLv 467 45 4097 57 8 = true := by decide +kernel
theorem lv7_65 : gLv 467 45 4097 65 8 = true := by decide +kernel
theorem lv7_73 : gLv 467 45 4097 73 8 = true := by decide +kernel
theorem lv7_81 : gLv 467 45 4097 81 8 = true := by decide +kernel
theorem lv7_89 : gLv 467 45 4097 89 8 = true := by decide +kernel
theorem lv7_97 : gLv 467 45 4097 97 8 = true := by decide +kernel
theorem lv7_105 : gLv 467 45 4097 105 8 = true := by decide +kernel
theorem lv7_113 : gLv 467 45 4097 113 8 = true := by decide +kernel
theorem lv7_121 : gLv 467 45 4097 121 7 = true := by decide +kernel
theorem gn_234 : GFar 233 2 2049 := by constructor <;> decide +kernel
theorem gn_235 : GFar 234 2 2049 := by constructor <;> decide +kernel
theorem gn_236 : GFar 235 2 2049 := by constructor <;> decide +kernel
theorem gn_237 : GFar 236 2 2049 := by constructor <;> decide +kernel
theorem gn_238 : GFar 237 2 2049 := by constructor <;> decide +kernel
theorem gn_239 : GFar 238 2 2049 := by constructor <;> decide +kernel
theorem gn_240 : GFar 239 2 2049 := by constructor <;> decide +kernel
theorem gn_241 : GFar 240 2 2049 := by constructor <;> decide +kernel
theorem gn_242 : GFar 241 2 2049 := by constructor <;> decide +kernel
theorem gn_243 : GFar 242 2 2049 := by constructor <;> decide +kernel
theorem gn_244 : GFar 243 2 2049 := by constructor <;> decide +kernel
theorem gn_245 : GFar 244 2 2049 := by constructor <;> decide +kernel
theorem gn_246 : GFar 245 2 2049 := by constructor <;> decide +kernel
theorem gn_247 : GFar 246 2 2049 := by constructor <;> decide +kernel
theorem gn_248 : GFar 247 2 2049 := by constructor <;> decide +kernel
theorem gn_249 : GFar 248 2 2049 := by constructor <;> decide +kernel
theorem gn_250 : GFar 249 2 2049 := by constructor <;> decide +kernel
theorem gn_251 : GFar 250 2 2049 := by constructor <;> decide +kernel
theorem gn_252 : GFar 251 2 2049 := by constructor <;> decide +kernel
theorem gn_253 : GFar 252 2 2049 := by constructor <;> decide +kernel
theorem gn_254 : GFar 253 2 2049 := by constructor <;> decide +kernel
theorem gn_255 : GFar 254 2 2049 := by constructor <;> decide +kernel
theorem gn_256 : GFar 255 3 2049 := by constructor <;> decide +kernel
theorem gn_117 : GFar 116 2 2049 := by constructor <;> decide +kernel
theorem gn_118 : GFar 117 2 2049 := by constructor <;> decide +kernel
theorem gn_119 : GFar 118 2 2049 := by constructor <;> decide +kernel
theorem gn_120 : GFar 119 2 2049 := by constructor <;> decide +kernel
theorem gn_121 : GFar 120 2 2049 := by constructor <;> decide +kernel
theorem gn_122 : GFar 121 2 2049 := by constructor <;> decide +kernel
theorem gn_123 : GFar 122 2 2049 := by constructor <;> decide +kernel
theorem gn_124 : GFar 123 2 2049 := by constructor <;> decide +kernel
theorem gn_125 : GFar 124 2 2049 := by constructor <;> decide +kernel
theorem gn_126 : GFar 125 2 2049 := by constructor <;> decide +kernel
theorem gn_127 : GFar 126 2 2049 := by constructor <;> decide +kernel
theorem gn_128 : GFar 127 2 2049 := by constructor <;> decide +kernel
theorem gn_58 : GFar 57 2 2049 := by constructor <;> decide +kernel
theorem gn_59 : GFar 58 2 2049 := by constructor <;> decide +kernel
theorem gn_60 : GFar 59 2 2049 := by constructor <;> decide +kernel
theorem gn_61 : GFar 60 2 2049 := by constructor <;> decide +kernel
theorem gn_62 : GFar 61 2 2049 := by constructor <;> decide +kernel
theorem gn_63 : GFar 62 2 2049 := by constructor <;> decide +kernel
theorem gn_64 : GFar 63 2 2049 := by constructor <;> decide +kernel
theorem gn_29 : GFar 28 2 2049 := by constructor <;> decide +kernel
theorem gn_30 : GFar 29 2 2049 := by constructor <;> decide +kernel
theorem gn_31 : GFar 30 2 2049 := by constructor <;> decide +kernel
theorem gn_32 : GFar 31 2 2049 := by constructor <;> decide +kernel
theorem gn_14 : GFar 13 2 2049 := by constructor <;> decide +kernel
theorem gn_15 : GFar 14 2 2049 := by constructor <;> decide +kernel
theorem gn_16 : GFar 15 2 2049 := by constructor <;> decide +kernel
theorem gn_7 : GFar 6 2 2049 := by constructor <;> decide +kernel
theorem gn_8 : GFar 7 2 2049 := by constructor <;> decide +kernel
theorem gn_3 : GFar 2 2 2049 := by constructor <;> decide +kernel
theorem gn_4 : GFar 3 2 2049 := by constructor <;> decide +kernel
theorem gn_2 : GFar 1 2 2049 := by constructor <;> decide +kernel
end Go.Proofs.YtfkpeabkcdhcfaaDoor
