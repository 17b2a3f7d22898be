import Derived.Test.YtiiliffoclejlaaR6Code
import Derived.KernelRfl
namespace Go.AM
open Go.Proofs
set_option maxRecDepth 1000000
@[simp] def c_law8_PlanForms_r0 : List Ir := [⟨(some 4), none, .mov (.c (.bool false))⟩]
@[simp] def c_law8_PlanForms_r1 : List Ir := [⟨(some 21), none, .call f_law8_awake []⟩,
  ⟨(some 22), none, .un .not (.t 21)⟩]
@[simp] def c_law8_PlanForms_r2 : List Ir := [⟨(some 4), none, .mov (.c (.bool false))⟩]
@[simp] def c_law8_PlanForms_r3 : List Ir := [⟨(some 23), none, .mov (.t 1)⟩,
  ⟨(some 24), none, .bin .and 3 (.t 23) (.c (.int .i64 1023))⟩,
  ⟨(some 25), none, .bin .add 3 (.c (.int .i64 1)) (.t 24)⟩,
  ⟨(some 5), none, .mov (.t 25)⟩]
@[simp] def c_law8_PlanForms_r4 : List Ir := [⟨(some 26), none, .call f_ref1_Blank []⟩,
  ⟨(some 6), none, .new [(.int .i64 0), (.int .i64 0), (.int .i64 0), (.int .i64 0), (.slice none 0 0)]⟩,
  ⟨none, none, .st 5 (.t 6) (.t 26)⟩]
@[simp] def c_law8_PlanForms_r5 : List Ir := [⟨(some 27), none, .ldn 5 (.t 6)⟩,
  ⟨(some 28), none, .call f_law0_CopyPager [(.t 27)]⟩,
  ⟨(some 7), none, .new [(.int .i64 0), (.int .i64 0), (.int .i64 0), (.int .i64 0), (.slice none 0 0)]⟩,
  ⟨none, none, .st 5 (.t 7) (.t 28)⟩]
@[simp] def c_law8_PlanForms_r6 : List Ir := [⟨(some 8), none, .mov (.c (.bool false))⟩]
@[simp] def c_law8_PlanForms_r7 : List Ir := [⟨(some 29), none, .mov (.t 0)⟩,
  ⟨(some 30), none, .ii .u64 (.t 29)⟩,
  ⟨(some 31), none, .bin .rem 55 (.t 30) (.c (.int .u64 10))⟩]
@[simp] def c_law8_PlanForms_r8 : List Ir := [⟨(some 36), none, .bin .eql 55 (.t 31) (.c (.int .u64 0))⟩,
  ⟨(some 35), none, .mov (.t 36)⟩]
@[simp] def c_law8_PlanForms_r9 : List Ir := [⟨(some 37), none, .mov (.t 5)⟩,
  ⟨(some 38), none, .un .neg (.t 37)⟩,
  ⟨(some 39), none, .fadr 0 (.t 7)⟩,
  ⟨(some 40), none, .fadr 0 (.t 39)⟩,
  ⟨none, none, .st 1 (.t 40) (.t 38)⟩]
@[simp] def c_law8_PlanForms_r10 : List Ir := [⟨(some 42), none, .bin .eql 55 (.t 31) (.c (.int .u64 1))⟩,
  ⟨(some 41), none, .mov (.t 42)⟩]
@[simp] def c_law8_PlanForms_r11 : List Ir := [⟨(some 43), none, .mov (.t 5)⟩,
  ⟨(some 44), none, .un .neg (.t 43)⟩,
  ⟨(some 45), none, .fadr 0 (.t 7)⟩,
  ⟨(some 46), none, .fadr 1 (.t 45)⟩,
  ⟨none, none, .st 1 (.t 46) (.t 44)⟩]
@[simp] def c_law8_PlanForms_r12 : List Ir := [⟨(some 48), none, .bin .eql 55 (.t 31) (.c (.int .u64 2))⟩,
  ⟨(some 47), none, .mov (.t 48)⟩]
@[simp] def c_law8_PlanForms_r13 : List Ir := [⟨(some 49), none, .mov (.t 5)⟩,
  ⟨(some 50), none, .un .neg (.t 49)⟩,
  ⟨(some 51), none, .fadr 2 (.t 7)⟩,
  ⟨none, none, .st 1 (.t 51) (.t 50)⟩]
@[simp] def c_law8_PlanForms_r14 : List Ir := [⟨(some 53), none, .bin .eql 55 (.t 31) (.c (.int .u64 3))⟩,
  ⟨(some 52), none, .mov (.t 53)⟩]
@[simp] def c_law8_PlanForms_r15 : List Ir := [⟨(some 54), none, .mov (.t 5)⟩,
  ⟨(some 55), none, .un .neg (.t 54)⟩,
  ⟨(some 56), none, .fadr 3 (.t 7)⟩,
  ⟨none, none, .st 1 (.t 56) (.t 55)⟩]
@[simp] def c_law8_PlanForms_r16 : List Ir := [⟨(some 58), none, .bin .eql 55 (.t 31) (.c (.int .u64 4))⟩,
  ⟨(some 57), none, .mov (.t 58)⟩]
@[simp] def c_law8_PlanForms_r17 : List Ir := [⟨(some 59), none, .mov (.t 5)⟩,
  ⟨(some 60), none, .bin .add 3 (.c (.int .i64 200)) (.t 59)⟩,
  ⟨(some 61), none, .fadr 3 (.t 7)⟩,
  ⟨none, none, .st 1 (.t 61) (.t 60)⟩]
@[simp] def c_law8_PlanForms_r18 : List Ir := [⟨(some 63), none, .bin .eql 55 (.t 31) (.c (.int .u64 5))⟩,
  ⟨(some 62), none, .mov (.t 63)⟩]
@[simp] def c_law8_PlanForms_r19 : List Ir := [⟨(some 64), none, .fadr 4 (.t 7)⟩,
  ⟨(some 65), none, .ld (.t 64)⟩,
  ⟨(some 66), none, .slv 1 (.t 65) (some (.c (.int .i64 1))) none none⟩,
  ⟨(some 67), none, .fadr 4 (.t 7)⟩,
  ⟨none, none, .st 1 (.t 67) (.t 66)⟩]
@[simp] def c_law8_PlanForms_r20 : List Ir := [⟨(some 69), none, .bin .eql 55 (.t 31) (.c (.int .u64 6))⟩,
  ⟨(some 68), none, .mov (.t 69)⟩]
@[simp] def c_law8_PlanForms_r21 : List Ir := [⟨(some 70), none, .fadr 4 (.t 7)⟩,
  ⟨(some 71), none, .ld (.t 70)⟩,
  ⟨(some 72), none, .mov (.t 5)⟩,
  ⟨(some 73), none, .bin .add 3 (.c (.int .i64 96)) (.t 72)⟩,
  ⟨(some 74), none, .mks 1 1 [(.int .u8 0)] (.t 73) (.t 73)⟩,
  ⟨(some 75), none, .b2s (.t 74)⟩,
  ⟨(some 76), none, .iadrS 1 (.t 71) (.c (.int .i64 3))⟩,
  ⟨none, none, .st 1 (.t 76) (.t 75)⟩]
@[simp] def c_law8_PlanForms_r22 : List Ir := [⟨(some 78), none, .bin .eql 55 (.t 31) (.c (.int .u64 7))⟩,
  ⟨(some 77), none, .mov (.t 78)⟩]
@[simp] def c_law8_PlanForms_r23 : List Ir := [⟨(some 79), none, .fadr 2 (.t 7)⟩,
  ⟨none, none, .st 1 (.t 79) (.c (.int .i64 2147482648))⟩]
@[simp] def c_law8_PlanForms_r24 : List Ir := [⟨(some 8), none, .mov (.c (.bool true))⟩]
@[simp] def c_law8_PlanForms_r25 : List Ir := [⟨(some 81), none, .bin .eql 55 (.t 31) (.c (.int .u64 8))⟩,
  ⟨(some 80), none, .mov (.t 81)⟩]
@[simp] def c_law8_PlanForms_r26 : List Ir := [⟨(some 82), none, .fadr 0 (.t 7)⟩,
  ⟨(some 83), none, .fadr 0 (.t 82)⟩,
  ⟨none, none, .st 1 (.t 83) (.c (.int .i64 2147482648))⟩]
@[simp] def c_law8_PlanForms_r27 : List Ir := [⟨(some 8), none, .mov (.c (.bool true))⟩]
@[simp] def c_law8_PlanForms_r28 : List Ir := [⟨(some 32), none, .mov (.t 5)⟩,
  ⟨(some 33), none, .bin .add 3 (.c (.int .i64 2147483647)) (.t 32)⟩,
  ⟨(some 34), none, .fadr 2 (.t 7)⟩,
  ⟨none, none, .st 1 (.t 34) (.t 33)⟩]
@[simp] def c_law8_PlanForms_r29 : List Ir := [⟨(some 85), none, .ldn 5 (.t 7)⟩,
  ⟨(some 86), none, .call f_plan_Fresh [(.t 85)]⟩,
  ⟨(some 84), none, .mov (.t 86)⟩,
  ⟨(some 87), none, .ext 0 (.t 84)⟩,
  ⟨(some 88), none, .ext 1 (.t 84)⟩,
  ⟨(some 89), none, .ext 2 (.t 84)⟩,
  ⟨(some 10), none, .new [(.int .i64 0), (.int .i64 0), (.int .i64 0), (.int .i64 0), (.slice none 0 0)]⟩,
  ⟨(some 9), none, .mov (.t 87)⟩,
  ⟨none, none, .st 5 (.t 10) (.t 88)⟩,
  ⟨(some 11), none, .mov (.t 89)⟩]
@[simp] def c_law8_PlanForms_r30 : List Ir := [⟨(some 91), none, .ldn 5 (.t 7)⟩,
  ⟨(some 92), none, .call f_plan_Commit [(.t 91), (.c (.slice none 0 0))]⟩,
  ⟨(some 90), none, .mov (.t 92)⟩,
  ⟨(some 93), none, .ext 0 (.t 90)⟩,
  ⟨(some 94), none, .ext 1 (.t 90)⟩,
  ⟨(some 95), none, .ext 2 (.t 90)⟩,
  ⟨(some 13), none, .new [(.int .i64 0), (.int .i64 0), (.int .i64 0), (.int .i64 0), (.slice none 0 0)]⟩,
  ⟨(some 12), none, .mov (.t 93)⟩,
  ⟨none, none, .st 5 (.t 13) (.t 94)⟩,
  ⟨(some 14), none, .mov (.t 95)⟩]
@[simp] def c_law8_PlanForms_r31 : List Ir := [⟨(some 97), none, .ldn 5 (.t 6)⟩,
  ⟨(some 98), none, .build [(.int .i64 0), (.string ⟨#[]⟩)] [(0, (1, (.c (.int .i64 2))))]⟩,
  ⟨(some 99), none, .build [(.int .i64 0), (.string ⟨#[]⟩)] [(0, (1, (.c (.int .i64 1))))]⟩,
  ⟨(some 100), none, .mkrow 2 2 [(.int .i64 0), (.string ⟨#[]⟩), (.int .i64 0), (.string ⟨#[]⟩)] [(0, (2, (.t 98))), (2, (2, (.t 99)))]⟩,
  ⟨(some 101), none, .call f_plan_Commit [(.t 97), (.t 100)]⟩,
  ⟨(some 96), none, .mov (.t 101)⟩,
  ⟨(some 102), none, .ext 0 (.t 96)⟩,
  ⟨(some 103), none, .ext 1 (.t 96)⟩,
  ⟨(some 104), none, .ext 2 (.t 96)⟩,
  ⟨(some 16), none, .new [(.int .i64 0), (.int .i64 0), (.int .i64 0), (.int .i64 0), (.slice none 0 0)]⟩,
  ⟨(some 15), none, .mov (.t 102)⟩,
  ⟨none, none, .st 5 (.t 16) (.t 103)⟩,
  ⟨(some 17), none, .mov (.t 104)⟩]
@[simp] def c_law8_PlanForms_r32 : List Ir := [⟨(some 106), none, .ldn 5 (.t 6)⟩,
  ⟨(some 107), none, .call f_plan_Commit [(.t 106), (.c (.slice none 0 0))]⟩,
  ⟨(some 105), none, .mov (.t 107)⟩,
  ⟨(some 108), none, .ext 0 (.t 105)⟩,
  ⟨(some 109), none, .ext 1 (.t 105)⟩,
  ⟨(some 110), none, .ext 2 (.t 105)⟩,
  ⟨(some 19), none, .new [(.int .i64 0), (.int .i64 0), (.int .i64 0), (.int .i64 0), (.slice none 0 0)]⟩,
  ⟨(some 18), none, .mov (.t 108)⟩,
  ⟨none, none, .st 5 (.t 19) (.t 109)⟩,
  ⟨(some 20), none, .mov (.t 110)⟩]
@[simp] def c_law8_PlanForms_r33 : List Ir := [⟨(some 111), none, .ldn 5 (.t 7)⟩,
  ⟨(some 112), none, .call f_plan_May [(.t 111)]⟩,
  ⟨(some 113), none, .mov (.t 8)⟩,
  ⟨(some 114), none, .bin .eql 4 (.t 112) (.t 113)⟩,
  ⟨(some 115), none, .mov (.t 114)⟩,
  ⟨(some 116), (some (115, true)), .ldn 5 (.t 6)⟩,
  ⟨(some 117), (some (115, true)), .call f_plan_May [(.t 116)]⟩,
  ⟨(some 118), none, .pick (.t 115) (.t 117) (.c (.bool false))⟩,
  ⟨(some 119), none, .mov (.t 118)⟩,
  ⟨(some 120), (some (119, true)), .mov (.t 9)⟩,
  ⟨(some 121), (some (119, true)), .lenV (.t 120)⟩,
  ⟨(some 122), (some (119, true)), .mov (.t 12)⟩,
  ⟨(some 123), (some (119, true)), .lenV (.t 122)⟩,
  ⟨(some 124), (some (119, true)), .bin .add 3 (.t 121) (.t 123)⟩,
  ⟨(some 125), (some (119, true)), .mov (.t 15)⟩,
  ⟨(some 126), (some (119, true)), .lenV (.t 125)⟩,
  ⟨(some 127), (some (119, true)), .bin .add 3 (.t 124) (.t 126)⟩,
  ⟨(some 128), (some (119, true)), .bin .eql 3 (.t 127) (.c (.int .i64 0))⟩,
  ⟨(some 129), none, .pick (.t 119) (.t 128) (.c (.bool false))⟩,
  ⟨(some 130), none, .mov (.t 129)⟩,
  ⟨(some 131), (some (130, true)), .mov (.t 11)⟩,
  ⟨(some 132), (some (130, true)), .call f_law0_Num [(.t 131)]⟩,
  ⟨(some 133), (some (130, true)), .bin .eql 3 (.t 132) (.c (.int .i64 800))⟩,
  ⟨(some 134), none, .pick (.t 130) (.t 133) (.c (.bool false))⟩,
  ⟨(some 135), none, .mov (.t 134)⟩,
  ⟨(some 136), (some (135, true)), .mov (.t 14)⟩,
  ⟨(some 137), (some (135, true)), .call f_law0_Num [(.t 136)]⟩,
  ⟨(some 138), (some (135, true)), .bin .eql 3 (.t 137) (.c (.int .i64 800))⟩,
  ⟨(some 139), none, .pick (.t 135) (.t 138) (.c (.bool false))⟩,
  ⟨(some 140), none, .mov (.t 139)⟩,
  ⟨(some 141), (some (140, true)), .mov (.t 17)⟩,
  ⟨(some 142), (some (140, true)), .call f_law0_Num [(.t 141)]⟩,
  ⟨(some 143), (some (140, true)), .bin .eql 3 (.t 142) (.c (.int .i64 800))⟩,
  ⟨(some 144), none, .pick (.t 140) (.t 143) (.c (.bool false))⟩,
  ⟨(some 145), none, .mov (.t 144)⟩,
  ⟨(some 146), (some (145, true)), .mov (.t 18)⟩,
  ⟨(some 147), (some (145, true)), .lenV (.t 146)⟩,
  ⟨(some 148), (some (145, true)), .bin .eql 3 (.t 147) (.c (.int .i64 0))⟩,
  ⟨(some 149), none, .pick (.t 145) (.t 148) (.c (.bool false))⟩,
  ⟨(some 150), none, .mov (.t 149)⟩,
  ⟨(some 151), (some (150, true)), .ldn 5 (.t 19)⟩,
  ⟨(some 152), (some (150, true)), .ldn 5 (.t 6)⟩,
  ⟨(some 153), (some (150, true)), .call f_law0_SamePager [(.t 151), (.t 152)]⟩,
  ⟨(some 154), none, .pick (.t 150) (.t 153) (.c (.bool false))⟩,
  ⟨(some 155), none, .mov (.t 154)⟩,
  ⟨(some 156), (some (155, true)), .mov (.t 20)⟩,
  ⟨(some 157), (some (155, true)), .call f_law0_Num [(.t 156)]⟩,
  ⟨(some 158), (some (155, true)), .bin .eql 3 (.t 157) (.c (.int .i64 0))⟩,
  ⟨(some 159), none, .pick (.t 155) (.t 158) (.c (.bool false))⟩,
  ⟨(some 4), none, .mov (.t 159)⟩]
@[simp] def c_law8_PlanForms : IFn := ⟨(.seq (.reg c_law8_PlanForms_r0) (.seq (.seq (.reg c_law8_PlanForms_r1) (.cond (.t 22) (.seq (.reg c_law8_PlanForms_r2) .ret) .skip)) (.seq (.reg c_law8_PlanForms_r3) (.seq (.reg c_law8_PlanForms_r4) (.seq (.reg c_law8_PlanForms_r5) (.seq (.reg c_law8_PlanForms_r6) (.seq (.seq (.reg c_law8_PlanForms_r7) (.block 0 (.seq (.reg c_law8_PlanForms_r8) (.cond (.t 35) (.reg c_law8_PlanForms_r9) (.seq (.reg c_law8_PlanForms_r10) (.cond (.t 41) (.reg c_law8_PlanForms_r11) (.seq (.reg c_law8_PlanForms_r12) (.cond (.t 47) (.reg c_law8_PlanForms_r13) (.seq (.reg c_law8_PlanForms_r14) (.cond (.t 52) (.reg c_law8_PlanForms_r15) (.seq (.reg c_law8_PlanForms_r16) (.cond (.t 57) (.reg c_law8_PlanForms_r17) (.seq (.reg c_law8_PlanForms_r18) (.cond (.t 62) (.reg c_law8_PlanForms_r19) (.seq (.reg c_law8_PlanForms_r20) (.cond (.t 68) (.regd c_law8_PlanForms_r21 []) (.seq (.reg c_law8_PlanForms_r22) (.cond (.t 77) (.seq (.reg c_law8_PlanForms_r23) (.reg c_law8_PlanForms_r24)) (.seq (.reg c_law8_PlanForms_r25) (.cond (.t 80) (.seq (.reg c_law8_PlanForms_r26) (.reg c_law8_PlanForms_r27)) (.reg c_law8_PlanForms_r28))))))))))))))))))))) (.seq (.reg c_law8_PlanForms_r29) (.seq (.reg c_law8_PlanForms_r30) (.seq (.reg c_law8_PlanForms_r31) (.seq (.reg c_law8_PlanForms_r32) (.seq (.reg c_law8_PlanForms_r33) .ret)))))))))))), 160, [.tmp 4]⟩

theorem fc_law8_PlanForms : fnAt Try.prog f_law8_PlanForms = some c_law8_PlanForms := by kernel_rfl
end Go.AM
