import Derived.Test.YtiiliffoclejlaaR6Code
import Derived.KernelRfl
namespace Go.AM
open Go.Proofs
set_option maxRecDepth 1000000
@[simp] def c_law2_DiskFlushed_r0 : List Ir := [⟨(some 6), none, .mov (.c (.bool false))⟩]
@[simp] def c_law2_DiskFlushed_r1 : List Ir := [⟨(some 23), none, .call f_law2_awake []⟩,
  ⟨(some 24), none, .un .not (.t 23)⟩]
@[simp] def c_law2_DiskFlushed_r2 : List Ir := [⟨(some 6), none, .mov (.c (.bool false))⟩]
@[simp] def c_law2_DiskFlushed_r3 : List Ir := [⟨(some 25), none, .call f_disk_New []⟩,
  ⟨(some 7), none, .new [(.slice none 0 0), (.slice none 0 0)]⟩,
  ⟨none, none, .st 2 (.t 7) (.t 25)⟩]
@[simp] def c_law2_DiskFlushed_r4 : List Ir := [⟨(some 8), none, .new [(.int .i64 0), (.int .i64 0), (.int .i64 0), (.int .i64 0), (.int .i64 0), (.int .i64 0), (.int .i64 0), (.int .i64 0), (.int .i64 0), (.int .i64 0), (.int .i64 0), (.int .i64 0), (.int .i64 0), (.int .i64 0), (.int .i64 0), (.int .i64 0), (.int .i64 0), (.int .i64 0), (.int .i64 0), (.int .i64 0), (.int .i64 0), (.int .i64 0), (.int .i64 0), (.int .i64 0), (.int .i64 0), (.int .i64 0), (.int .i64 0), (.int .i64 0), (.int .i64 0), (.int .i64 0), (.int .i64 0), (.int .i64 0), (.int .i64 0), (.int .i64 0), (.int .i64 0), (.int .i64 0), (.int .i64 0), (.int .i64 0), (.int .i64 0), (.int .i64 0), (.int .i64 0), (.int .i64 0), (.int .i64 0), (.int .i64 0), (.int .i64 0), (.int .i64 0), (.int .i64 0), (.int .i64 0), (.int .i64 0), (.int .i64 0), (.int .i64 0), (.int .i64 0), (.int .i64 0), (.int .i64 0), (.int .i64 0), (.int .i64 0), (.int .i64 0), (.int .i64 0), (.int .i64 0), (.int .i64 0), (.int .i64 0), (.int .i64 0), (.int .i64 0), (.int .i64 0)]⟩]
@[simp] def c_law2_DiskFlushed_r5 : List Ir := [⟨(some 9), none, .new (List.replicate 4096 (.bool false))⟩]
@[simp] def c_law2_DiskFlushed_r6 : List Ir := [⟨(some 10), none, .mov (.c (.int .i64 0))⟩]
@[simp] def c_law2_DiskFlushed_r7 : List Ir := [⟨(some 26), none, .mov (.t 10)⟩,
  ⟨(some 27), none, .mov (.t 0)⟩,
  ⟨(some 28), none, .lenV (.t 27)⟩,
  ⟨(some 29), none, .bin .lss 3 (.t 26) (.t 28)⟩,
  ⟨(some 30), none, .mov (.t 29)⟩,
  ⟨(some 31), (some (30, true)), .mov (.t 10)⟩,
  ⟨(some 32), (some (30, true)), .bin .lss 3 (.t 31) (.c (.int .i64 40))⟩,
  ⟨(some 33), none, .pick (.t 30) (.t 32) (.c (.bool false))⟩]
@[simp] def c_law2_DiskFlushed_r8 : List Ir := [⟨(some 36), none, .mov (.t 0)⟩,
  ⟨(some 37), none, .mov (.t 10)⟩,
  ⟨(some 38), none, .iadrS 1 (.t 36) (.t 37)⟩,
  ⟨(some 39), none, .ld (.t 38)⟩,
  ⟨(some 40), none, .bin .and 3 (.t 39) (.c (.int .i64 63))⟩,
  ⟨(some 11), none, .mov (.t 40)⟩]
@[simp] def c_law2_DiskFlushed_r9 : List Ir := [⟨(some 42), none, .ldn 2 (.t 7)⟩,
  ⟨(some 43), none, .mov (.t 11)⟩,
  ⟨(some 44), none, .mov (.t 10)⟩,
  ⟨(some 45), none, .bin .add 3 (.c (.int .i64 1)) (.t 44)⟩,
  ⟨(some 12), none, .new [(.slice none 0 0), (.slice none 0 0)]⟩,
  ⟨(some 46), none, .call f_law2_sector [(.t 45)]⟩,
  ⟨(some 47), none, .build [(.int .i64 0), (.string ⟨#[]⟩)] [(0, (1, (.t 43))), (1, (1, (.t 46)))]⟩,
  ⟨(some 48), none, .build [(.bool false), (.int .i64 0), (.string ⟨#[]⟩)] [(1, (2, (.t 47)))]⟩,
  ⟨(some 49), none, .call f_disk_Do [(.t 42), (.t 48)]⟩,
  ⟨(some 41), none, .mov (.t 49)⟩,
  ⟨(some 50), none, .ext 0 (.t 41)⟩,
  ⟨(some 51), none, .ext 1 (.t 41)⟩,
  ⟨none, none, .st 2 (.t 12) (.t 50)⟩,
  ⟨(some 13), none, .mov (.t 51)⟩]
@[simp] def c_law2_DiskFlushed_r10 : List Ir := [⟨(some 52), none, .mov (.t 13)⟩,
  ⟨(some 53), none, .call f_law0_Num [(.t 52)]⟩,
  ⟨(some 54), none, .bin .neq 3 (.t 53) (.c (.int .i64 0))⟩]
@[simp] def c_law2_DiskFlushed_r11 : List Ir := [⟨(some 6), none, .mov (.c (.bool false))⟩]
@[simp] def c_law2_DiskFlushed_r12 : List Ir := [⟨(some 55), none, .ldn 2 (.t 12)⟩,
  ⟨none, none, .st 2 (.t 7) (.t 55)⟩]
@[simp] def c_law2_DiskFlushed_r13 : List Ir := [⟨(some 56), none, .mov (.t 11)⟩,
  ⟨(some 57), none, .mov (.t 10)⟩,
  ⟨(some 58), none, .bin .add 3 (.c (.int .i64 1)) (.t 57)⟩,
  ⟨(some 59), none, .iadrA 64 64 (.t 9) (.t 56)⟩,
  ⟨(some 60), none, .iadrA 64 1 (.t 59) (.t 58)⟩,
  ⟨none, none, .st 1 (.t 60) (.c (.bool true))⟩]
@[simp] def c_law2_DiskFlushed_r14 : List Ir := [⟨(some 61), none, .mov (.t 10)⟩,
  ⟨(some 62), none, .mov (.t 1)⟩,
  ⟨(some 63), none, .bin .and 3 (.t 62) (.c (.int .i64 63))⟩,
  ⟨(some 64), none, .bin .eql 3 (.t 61) (.t 63)⟩]
@[simp] def c_law2_DiskFlushed_r15 : List Ir := [⟨(some 66), none, .ldn 2 (.t 7)⟩,
  ⟨(some 67), none, .build [(.bool false), (.int .i64 0), (.string ⟨#[]⟩)] [(0, (1, (.c (.bool true))))]⟩,
  ⟨(some 68), none, .call f_disk_Do [(.t 66), (.t 67)]⟩,
  ⟨(some 65), none, .mov (.t 68)⟩,
  ⟨(some 69), none, .ext 0 (.t 65)⟩,
  ⟨(some 70), none, .ext 1 (.t 65)⟩,
  ⟨(some 14), none, .new [(.slice none 0 0), (.slice none 0 0)]⟩,
  ⟨none, none, .st 2 (.t 14) (.t 69)⟩,
  ⟨(some 15), none, .mov (.t 70)⟩]
@[simp] def c_law2_DiskFlushed_r16 : List Ir := [⟨(some 71), none, .mov (.t 15)⟩,
  ⟨(some 72), none, .call f_law0_Num [(.t 71)]⟩,
  ⟨(some 73), none, .bin .neq 3 (.t 72) (.c (.int .i64 0))⟩]
@[simp] def c_law2_DiskFlushed_r17 : List Ir := [⟨(some 6), none, .mov (.c (.bool false))⟩]
@[simp] def c_law2_DiskFlushed_r18 : List Ir := [⟨(some 74), none, .ldn 2 (.t 14)⟩,
  ⟨none, none, .st 2 (.t 7) (.t 74)⟩]
@[simp] def c_law2_DiskFlushed_r19 : List Ir := [⟨(some 16), none, .mov (.c (.int .i64 0))⟩]
@[simp] def c_law2_DiskFlushed_r20 : List Ir := [⟨(some 75), none, .mov (.t 16)⟩,
  ⟨(some 76), none, .bin .lss 3 (.t 75) (.c (.int .i64 64))⟩]
@[simp] def c_law2_DiskFlushed_r21 : List Ir := [⟨(some 80), none, .ldn 2 (.t 7)⟩,
  ⟨(some 81), none, .mov (.t 16)⟩,
  ⟨(some 82), none, .call f_disk_Read [(.t 80), (.t 81)]⟩,
  ⟨(some 79), none, .mov (.t 82)⟩,
  ⟨(some 83), none, .ext 0 (.t 79)⟩,
  ⟨(some 84), none, .ext 1 (.t 79)⟩,
  ⟨(some 17), none, .mov (.t 83)⟩,
  ⟨(some 18), none, .mov (.t 84)⟩]
@[simp] def c_law2_DiskFlushed_r22 : List Ir := [⟨(some 85), none, .mov (.t 18)⟩,
  ⟨(some 86), none, .call f_law0_Num [(.t 85)]⟩,
  ⟨(some 87), none, .bin .neq 3 (.t 86) (.c (.int .i64 0))⟩,
  ⟨(some 88), none, .mov (.t 87)⟩,
  ⟨(some 89), (some (88, false)), .mov (.t 17)⟩,
  ⟨(some 90), (some (88, false)), .lenS (.t 89)⟩,
  ⟨(some 91), (some (88, false)), .bin .neq 3 (.t 90) (.c (.int .i64 64))⟩,
  ⟨(some 92), none, .pick (.t 88) (.c (.bool true)) (.t 91)⟩]
@[simp] def c_law2_DiskFlushed_r23 : List Ir := [⟨(some 6), none, .mov (.c (.bool false))⟩]
@[simp] def c_law2_DiskFlushed_r24 : List Ir := [⟨(some 93), none, .mov (.t 16)⟩,
  ⟨(some 94), none, .mov (.t 17)⟩,
  ⟨(some 95), none, .idxS (.t 94) (.c (.int .i64 0))⟩,
  ⟨(some 96), none, .ii .i64 (.t 95)⟩,
  ⟨(some 97), none, .iadrA 64 1 (.t 8) (.t 93)⟩,
  ⟨none, none, .st 1 (.t 97) (.t 96)⟩]
@[simp] def c_law2_DiskFlushed_r25 : List Ir := [⟨(some 98), none, .mov (.t 16)⟩,
  ⟨(some 99), none, .build [(.bool false), (.bool false), (.bool false), (.bool false), (.bool false), (.bool false), (.bool false), (.bool false), (.bool false), (.bool false), (.bool false), (.bool false), (.bool false), (.bool false), (.bool false), (.bool false), (.bool false), (.bool false), (.bool false), (.bool false), (.bool false), (.bool false), (.bool false), (.bool false), (.bool false), (.bool false), (.bool false), (.bool false), (.bool false), (.bool false), (.bool false), (.bool false), (.bool false), (.bool false), (.bool false), (.bool false), (.bool false), (.bool false), (.bool false), (.bool false), (.bool false), (.bool false), (.bool false), (.bool false), (.bool false), (.bool false), (.bool false), (.bool false), (.bool false), (.bool false), (.bool false), (.bool false), (.bool false), (.bool false), (.bool false), (.bool false), (.bool false), (.bool false), (.bool false), (.bool false), (.bool false), (.bool false), (.bool false), (.bool false)] []⟩,
  ⟨(some 100), none, .iadrA 64 64 (.t 9) (.t 98)⟩,
  ⟨none, none, .st 64 (.t 100) (.t 99)⟩]
@[simp] def c_law2_DiskFlushed_r26 : List Ir := [⟨(some 77), none, .mov (.t 16)⟩,
  ⟨(some 78), none, .bin .add 3 (.t 77) (.c (.int .i64 1))⟩,
  ⟨(some 16), none, .mov (.t 78)⟩]
def c_law2_DiskFlushed_l27 : IC := (.seq (.seq (.reg c_law2_DiskFlushed_r20) (.cond (.t 76) .skip (.exit 2))) (.seq (.block 3 (.seq (.reg c_law2_DiskFlushed_r21) (.seq (.seq (.reg c_law2_DiskFlushed_r22) (.cond (.t 92) (.seq (.reg c_law2_DiskFlushed_r23) .ret) .skip)) (.seq (.reg c_law2_DiskFlushed_r24) (.reg c_law2_DiskFlushed_r25))))) (.reg c_law2_DiskFlushed_r26)))
@[simp] def c_law2_DiskFlushed_r28 : List Ir := [⟨(some 34), none, .mov (.t 10)⟩,
  ⟨(some 35), none, .bin .add 3 (.t 34) (.c (.int .i64 1))⟩,
  ⟨(some 10), none, .mov (.t 35)⟩]
def c_law2_DiskFlushed_l29 : IC := (.seq (.seq (.reg c_law2_DiskFlushed_r7) (.cond (.t 33) .skip (.exit 0))) (.seq (.block 1 (.seq (.reg c_law2_DiskFlushed_r8) (.seq (.regd c_law2_DiskFlushed_r9 [(0, 5)]) (.seq (.seq (.reg c_law2_DiskFlushed_r10) (.cond (.t 54) (.seq (.reg c_law2_DiskFlushed_r11) .ret) .skip)) (.seq (.reg c_law2_DiskFlushed_r12) (.seq (.reg c_law2_DiskFlushed_r13) (.seq (.reg c_law2_DiskFlushed_r14) (.cond (.t 64) (.seq (.reg c_law2_DiskFlushed_r15) (.seq (.seq (.reg c_law2_DiskFlushed_r16) (.cond (.t 73) (.seq (.reg c_law2_DiskFlushed_r17) .ret) .skip)) (.seq (.reg c_law2_DiskFlushed_r18) (.seq (.reg c_law2_DiskFlushed_r19) (.block 2 (.loop c_law2_DiskFlushed_l27)))))) .skip)))))))) (.reg c_law2_DiskFlushed_r28)))
@[simp] def c_law2_DiskFlushed_r30 : List Ir := [⟨(some 102), none, .ldn 2 (.t 7)⟩,
  ⟨(some 103), none, .mov (.t 2)⟩,
  ⟨(some 104), none, .call f_disk_Crash [(.t 102), (.t 103), (.c (.int .i64 (-1))), (.c (.int .i64 0))]⟩,
  ⟨(some 101), none, .mov (.t 104)⟩,
  ⟨(some 105), none, .ext 0 (.t 101)⟩,
  ⟨(some 106), none, .ext 1 (.t 101)⟩,
  ⟨(some 19), none, .new [(.slice none 0 0), (.slice none 0 0)]⟩,
  ⟨none, none, .st 2 (.t 19) (.t 105)⟩,
  ⟨(some 20), none, .mov (.t 106)⟩]
@[simp] def c_law2_DiskFlushed_r31 : List Ir := [⟨(some 107), none, .mov (.t 20)⟩,
  ⟨(some 108), none, .call f_law0_Num [(.t 107)]⟩,
  ⟨(some 109), none, .bin .neq 3 (.t 108) (.c (.int .i64 0))⟩,
  ⟨(some 110), none, .mov (.t 109)⟩,
  ⟨(some 111), (some (110, false)), .fadr 0 (.t 19)⟩,
  ⟨(some 112), (some (110, false)), .ld (.t 111)⟩,
  ⟨(some 113), (some (110, false)), .lenV (.t 112)⟩,
  ⟨(some 114), (some (110, false)), .bin .neq 3 (.t 113) (.c (.int .i64 394))⟩,
  ⟨(some 115), none, .pick (.t 110) (.c (.bool true)) (.t 114)⟩,
  ⟨(some 116), none, .mov (.t 115)⟩,
  ⟨(some 117), (some (116, false)), .fadr 1 (.t 19)⟩,
  ⟨(some 118), (some (116, false)), .ld (.t 117)⟩,
  ⟨(some 119), (some (116, false)), .lenV (.t 118)⟩,
  ⟨(some 120), (some (116, false)), .bin .neq 3 (.t 119) (.c (.int .i64 0))⟩,
  ⟨(some 121), none, .pick (.t 116) (.c (.bool true)) (.t 120)⟩]
@[simp] def c_law2_DiskFlushed_r32 : List Ir := [⟨(some 6), none, .mov (.c (.bool false))⟩]
@[simp] def c_law2_DiskFlushed_r33 : List Ir := [⟨(some 21), none, .mov (.c (.int .i64 0))⟩]
@[simp] def c_law2_DiskFlushed_r34 : List Ir := [⟨(some 122), none, .mov (.t 21)⟩,
  ⟨(some 123), none, .bin .lss 3 (.t 122) (.c (.int .i64 64))⟩]
@[simp] def c_law2_DiskFlushed_r35 : List Ir := [⟨(some 126), none, .fadr 0 (.t 19)⟩,
  ⟨(some 127), none, .ld (.t 126)⟩,
  ⟨(some 128), none, .mov (.t 21)⟩,
  ⟨(some 129), none, .iadrS 1 (.t 127) (.t 128)⟩,
  ⟨(some 130), none, .ld (.t 129)⟩,
  ⟨(some 22), none, .mov (.t 130)⟩]
@[simp] def c_law2_DiskFlushed_r36 : List Ir := [⟨(some 131), none, .mov (.t 22)⟩,
  ⟨(some 132), none, .lenS (.t 131)⟩,
  ⟨(some 133), none, .bin .neq 3 (.t 132) (.c (.int .i64 64))⟩,
  ⟨(some 134), none, .mov (.t 133)⟩,
  ⟨(some 135), (some (134, false)), .mov (.t 22)⟩,
  ⟨(some 136), (some (134, false)), .mov (.t 22)⟩,
  ⟨(some 137), (some (134, false)), .idxS (.t 136) (.c (.int .i64 0))⟩,
  ⟨(some 138), (some (134, false)), .ii .i64 (.t 137)⟩,
  ⟨(some 139), (some (134, false)), .call f_law2_sector [(.t 138)]⟩,
  ⟨(some 140), (some (134, false)), .bin .neq 9 (.t 135) (.t 139)⟩,
  ⟨(some 141), none, .pick (.t 134) (.c (.bool true)) (.t 140)⟩,
  ⟨(some 142), none, .mov (.t 141)⟩,
  ⟨(some 143), (some (142, false)), .mov (.t 22)⟩,
  ⟨(some 144), (some (142, false)), .idxS (.t 143) (.c (.int .i64 0))⟩,
  ⟨(some 145), (some (142, false)), .ii .i64 (.t 144)⟩,
  ⟨(some 146), (some (142, false)), .mov (.t 21)⟩,
  ⟨(some 147), (some (142, false)), .iadrA 64 1 (.t 8) (.t 146)⟩,
  ⟨(some 148), (some (142, false)), .ld (.t 147)⟩,
  ⟨(some 149), (some (142, false)), .bin .neq 3 (.t 145) (.t 148)⟩,
  ⟨(some 150), (some (142, false)), .mov (.t 149)⟩,
  ⟨(some 151), (some (150, true)), .mov (.t 21)⟩,
  ⟨(some 152), (some (150, true)), .mov (.t 22)⟩,
  ⟨(some 153), (some (150, true)), .idxS (.t 152) (.c (.int .i64 0))⟩,
  ⟨(some 154), (some (150, true)), .ii .i64 (.t 153)⟩,
  ⟨(some 155), (some (150, true)), .bin .and 3 (.t 154) (.c (.int .i64 63))⟩,
  ⟨(some 156), (some (150, true)), .iadrA 64 64 (.t 9) (.t 151)⟩,
  ⟨(some 157), (some (150, true)), .iadrA 64 1 (.t 156) (.t 155)⟩,
  ⟨(some 158), (some (150, true)), .ld (.t 157)⟩,
  ⟨(some 159), (some (150, true)), .un .not (.t 158)⟩,
  ⟨(some 160), (some (142, false)), .pick (.t 150) (.t 159) (.c (.bool false))⟩,
  ⟨(some 161), none, .pick (.t 142) (.c (.bool true)) (.t 160)⟩]
@[simp] def c_law2_DiskFlushed_r37 : List Ir := [⟨(some 6), none, .mov (.c (.bool false))⟩]
@[simp] def c_law2_DiskFlushed_r38 : List Ir := [⟨(some 124), none, .mov (.t 21)⟩,
  ⟨(some 125), none, .bin .add 3 (.t 124) (.c (.int .i64 1))⟩,
  ⟨(some 21), none, .mov (.t 125)⟩]
def c_law2_DiskFlushed_l39 : IC := (.seq (.seq (.reg c_law2_DiskFlushed_r34) (.cond (.t 123) .skip (.exit 4))) (.seq (.block 5 (.seq (.reg c_law2_DiskFlushed_r35) (.seq (.regd c_law2_DiskFlushed_r36 []) (.cond (.t 161) (.seq (.reg c_law2_DiskFlushed_r37) .ret) .skip)))) (.reg c_law2_DiskFlushed_r38)))
@[simp] def c_law2_DiskFlushed_r40 : List Ir := [⟨(some 6), none, .mov (.c (.bool true))⟩]
@[simp] def c_law2_DiskFlushed : IFn := ⟨(.seq (.reg c_law2_DiskFlushed_r0) (.seq (.seq (.reg c_law2_DiskFlushed_r1) (.cond (.t 24) (.seq (.reg c_law2_DiskFlushed_r2) .ret) .skip)) (.seq (.reg c_law2_DiskFlushed_r3) (.seq (.reg c_law2_DiskFlushed_r4) (.seq (.reg c_law2_DiskFlushed_r5) (.seq (.seq (.reg c_law2_DiskFlushed_r6) (.block 0 (.loop c_law2_DiskFlushed_l29))) (.seq (.reg c_law2_DiskFlushed_r30) (.seq (.seq (.reg c_law2_DiskFlushed_r31) (.cond (.t 121) (.seq (.reg c_law2_DiskFlushed_r32) .ret) .skip)) (.seq (.seq (.reg c_law2_DiskFlushed_r33) (.block 4 (.loop c_law2_DiskFlushed_l39))) (.seq (.reg c_law2_DiskFlushed_r40) .ret)))))))))), 162, [.tmp 6]⟩

theorem fc_law2_DiskFlushed : fnAt Try.prog f_law2_DiskFlushed = some c_law2_DiskFlushed := by kernel_rfl
end Go.AM
