import Derived.Test.YtiiliffoclejlaaR6Code
import Derived.KernelRfl
namespace Go.AM
open Go.Proofs
set_option maxRecDepth 1000000
@[simp] def c_law7_OpenRows_r0 : List Ir := [⟨(some 6), none, .mov (.c (.bool false))⟩]
@[simp] def c_law7_OpenRows_r1 : List Ir := [⟨(some 22), none, .call f_law7_awake []⟩,
  ⟨(some 23), none, .un .not (.t 22)⟩]
@[simp] def c_law7_OpenRows_r2 : List Ir := [⟨(some 6), none, .mov (.c (.bool false))⟩]
@[simp] def c_law7_OpenRows_r3 : List Ir := [⟨(some 24), none, .mov (.t 0)⟩,
  ⟨(some 25), none, .call f_ref1_ImagesMay [(.t 24)]⟩,
  ⟨(some 26), none, .un .not (.t 25)⟩,
  ⟨(some 27), none, .mov (.t 26)⟩,
  ⟨(some 28), (some (27, false)), .mov (.t 1)⟩,
  ⟨(some 29), (some (27, false)), .call f_ref1_ImagesMay [(.t 28)]⟩,
  ⟨(some 30), (some (27, false)), .un .not (.t 29)⟩,
  ⟨(some 31), none, .pick (.t 27) (.c (.bool true)) (.t 30)⟩]
@[simp] def c_law7_OpenRows_r4 : List Ir := [⟨(some 6), none, .mov (.c (.bool true))⟩]
@[simp] def c_law7_OpenRows_r5 : List Ir := [⟨(some 32), none, .call f_ref1_NewDisk []⟩,
  ⟨(some 33), none, .call f_ref1_Format []⟩,
  ⟨(some 34), none, .call f_law7_done [(.t 32), (.t 33)]⟩,
  ⟨(some 7), none, .new [(.slice none 0 0), (.slice none 0 0)]⟩,
  ⟨none, none, .st 2 (.t 7) (.t 34)⟩]
@[simp] def c_law7_OpenRows_r6 : List Ir := [⟨(some 35), none, .call f_ref1_Blank []⟩,
  ⟨(some 8), none, .new [(.int .i64 0), (.int .i64 0), (.int .i64 0), (.int .i64 0), (.slice none 0 0)]⟩,
  ⟨none, none, .st 5 (.t 8) (.t 35)⟩]
@[simp] def c_law7_OpenRows_r7 : List Ir := [⟨(some 37), none, .ldn 5 (.t 8)⟩,
  ⟨(some 38), none, .mov (.t 0)⟩,
  ⟨(some 39), none, .call f_ref1_Commit [(.t 37), (.t 38)]⟩,
  ⟨(some 36), none, .mov (.t 39)⟩,
  ⟨(some 40), none, .ext 0 (.t 36)⟩,
  ⟨(some 41), none, .ext 1 (.t 36)⟩,
  ⟨(some 42), none, .ext 2 (.t 36)⟩,
  ⟨(some 9), none, .mov (.t 40)⟩,
  ⟨none, none, .st 5 (.t 8) (.t 41)⟩,
  ⟨(some 10), none, .mov (.t 42)⟩]
@[simp] def c_law7_OpenRows_r8 : List Ir := [⟨(some 43), none, .ldn 2 (.t 7)⟩,
  ⟨(some 44), none, .mov (.t 9)⟩,
  ⟨(some 45), none, .call f_law7_done [(.t 43), (.t 44)]⟩,
  ⟨none, none, .st 2 (.t 7) (.t 45)⟩]
@[simp] def c_law7_OpenRows_r9 : List Ir := [⟨(some 46), none, .mov (.t 2)⟩]
@[simp] def c_law7_OpenRows_r10 : List Ir := [⟨(some 48), none, .ldn 5 (.t 8)⟩,
  ⟨(some 49), none, .call f_ref1_Fresh [(.t 48)]⟩,
  ⟨(some 47), none, .mov (.t 49)⟩,
  ⟨(some 50), none, .ext 0 (.t 47)⟩,
  ⟨(some 51), none, .ext 1 (.t 47)⟩,
  ⟨(some 52), none, .ext 2 (.t 47)⟩,
  ⟨(some 12), none, .new [(.int .i64 0), (.int .i64 0), (.int .i64 0), (.int .i64 0), (.slice none 0 0)]⟩,
  ⟨(some 11), none, .mov (.t 50)⟩,
  ⟨none, none, .st 5 (.t 12) (.t 51)⟩,
  ⟨(some 13), none, .mov (.t 52)⟩]
@[simp] def c_law7_OpenRows_r11 : List Ir := [⟨(some 53), none, .ldn 2 (.t 7)⟩,
  ⟨(some 54), none, .mov (.t 11)⟩,
  ⟨(some 55), none, .call f_law7_done [(.t 53), (.t 54)]⟩,
  ⟨none, none, .st 2 (.t 7) (.t 55)⟩]
@[simp] def c_law7_OpenRows_r12 : List Ir := [⟨(some 56), none, .ldn 5 (.t 12)⟩,
  ⟨none, none, .st 5 (.t 8) (.t 56)⟩]
@[simp] def c_law7_OpenRows_r13 : List Ir := [⟨(some 58), none, .ldn 5 (.t 8)⟩,
  ⟨(some 59), none, .mov (.t 1)⟩,
  ⟨(some 60), none, .call f_ref1_Commit [(.t 58), (.t 59)]⟩,
  ⟨(some 57), none, .mov (.t 60)⟩,
  ⟨(some 61), none, .ext 0 (.t 57)⟩,
  ⟨(some 62), none, .ext 1 (.t 57)⟩,
  ⟨(some 63), none, .ext 2 (.t 57)⟩,
  ⟨(some 14), none, .mov (.t 61)⟩,
  ⟨none, none, .st 5 (.t 8) (.t 62)⟩,
  ⟨(some 15), none, .mov (.t 63)⟩]
@[simp] def c_law7_OpenRows_r14 : List Ir := [⟨(some 64), none, .ldn 2 (.t 7)⟩,
  ⟨(some 65), none, .mov (.t 14)⟩,
  ⟨(some 66), none, .call f_law7_done [(.t 64), (.t 65)]⟩,
  ⟨none, none, .st 2 (.t 7) (.t 66)⟩]
@[simp] def c_law7_OpenRows_r15 : List Ir := [⟨(some 68), none, .ldn 2 (.t 7)⟩,
  ⟨(some 69), none, .call f_open_Open [(.t 68)]⟩,
  ⟨(some 67), none, .mov (.t 69)⟩,
  ⟨(some 70), none, .ext 0 (.t 67)⟩,
  ⟨(some 71), none, .ext 1 (.t 67)⟩,
  ⟨(some 16), none, .new [(.int .i64 0), (.int .i64 0), (.int .i64 0), (.int .i64 0), (.slice none 0 0)]⟩,
  ⟨none, none, .st 5 (.t 16) (.t 70)⟩,
  ⟨(some 17), none, .mov (.t 71)⟩]
@[simp] def c_law7_OpenRows_r16 : List Ir := [⟨(some 72), none, .mov (.t 17)⟩,
  ⟨(some 73), none, .call f_law0_Num [(.t 72)]⟩,
  ⟨(some 74), none, .bin .neq 3 (.t 73) (.c (.int .i64 0))⟩,
  ⟨(some 75), none, .mov (.t 74)⟩,
  ⟨(some 76), (some (75, false)), .fadr 4 (.t 16)⟩,
  ⟨(some 77), (some (75, false)), .ld (.t 76)⟩,
  ⟨(some 78), (some (75, false)), .lenV (.t 77)⟩,
  ⟨(some 79), (some (75, false)), .bin .neq 3 (.t 78) (.c (.int .i64 48))⟩,
  ⟨(some 80), none, .pick (.t 75) (.c (.bool true)) (.t 79)⟩]
@[simp] def c_law7_OpenRows_r17 : List Ir := [⟨(some 6), none, .mov (.c (.bool false))⟩]
@[simp] def c_law7_OpenRows_r18 : List Ir := [⟨(some 18), none, .new [(.string ⟨#[]⟩), (.string ⟨#[]⟩), (.string ⟨#[]⟩), (.string ⟨#[]⟩), (.string ⟨#[]⟩), (.string ⟨#[]⟩), (.string ⟨#[]⟩), (.string ⟨#[]⟩), (.string ⟨#[]⟩), (.string ⟨#[]⟩), (.string ⟨#[]⟩), (.string ⟨#[]⟩), (.string ⟨#[]⟩), (.string ⟨#[]⟩), (.string ⟨#[]⟩), (.string ⟨#[]⟩), (.string ⟨#[]⟩), (.string ⟨#[]⟩), (.string ⟨#[]⟩), (.string ⟨#[]⟩), (.string ⟨#[]⟩), (.string ⟨#[]⟩), (.string ⟨#[]⟩), (.string ⟨#[]⟩), (.string ⟨#[]⟩), (.string ⟨#[]⟩), (.string ⟨#[]⟩), (.string ⟨#[]⟩), (.string ⟨#[]⟩), (.string ⟨#[]⟩), (.string ⟨#[]⟩), (.string ⟨#[]⟩), (.string ⟨#[]⟩), (.string ⟨#[]⟩), (.string ⟨#[]⟩), (.string ⟨#[]⟩), (.string ⟨#[]⟩), (.string ⟨#[]⟩), (.string ⟨#[]⟩), (.string ⟨#[]⟩), (.string ⟨#[]⟩), (.string ⟨#[]⟩), (.string ⟨#[]⟩), (.string ⟨#[]⟩), (.string ⟨#[]⟩), (.string ⟨#[]⟩), (.string ⟨#[]⟩), (.string ⟨#[]⟩)]⟩]
@[simp] def c_law7_OpenRows_r19 : List Ir := [⟨(some 19), none, .mov (.c (.int .i64 0))⟩]
@[simp] def c_law7_OpenRows_r20 : List Ir := [⟨(some 81), none, .mov (.t 19)⟩,
  ⟨(some 82), none, .mov (.t 0)⟩,
  ⟨(some 83), none, .lenV (.t 82)⟩,
  ⟨(some 84), none, .bin .lss 3 (.t 81) (.t 83)⟩]
@[simp] def c_law7_OpenRows_r21 : List Ir := [⟨(some 87), none, .mov (.t 0)⟩,
  ⟨(some 88), none, .mov (.t 19)⟩,
  ⟨(some 89), none, .iadrS 2 (.t 87) (.t 88)⟩,
  ⟨(some 90), none, .fadr 0 (.t 89)⟩,
  ⟨(some 91), none, .ld (.t 90)⟩,
  ⟨(some 92), none, .mov (.t 0)⟩,
  ⟨(some 93), none, .mov (.t 19)⟩,
  ⟨(some 94), none, .iadrS 2 (.t 92) (.t 93)⟩,
  ⟨(some 95), none, .fadr 1 (.t 94)⟩,
  ⟨(some 96), none, .ld (.t 95)⟩,
  ⟨(some 97), none, .iadrA 48 1 (.t 18) (.t 91)⟩,
  ⟨none, none, .st 1 (.t 97) (.t 96)⟩]
@[simp] def c_law7_OpenRows_r22 : List Ir := [⟨(some 85), none, .mov (.t 19)⟩,
  ⟨(some 86), none, .bin .add 3 (.t 85) (.c (.int .i64 1))⟩,
  ⟨(some 19), none, .mov (.t 86)⟩]
def c_law7_OpenRows_l23 : IC := (.seq (.seq (.reg c_law7_OpenRows_r20) (.cond (.t 84) .skip (.exit 0))) (.seq (.block 1 (.regd c_law7_OpenRows_r21 [])) (.reg c_law7_OpenRows_r22)))
@[simp] def c_law7_OpenRows_r24 : List Ir := [⟨(some 20), none, .mov (.c (.int .i64 0))⟩]
@[simp] def c_law7_OpenRows_r25 : List Ir := [⟨(some 98), none, .mov (.t 20)⟩,
  ⟨(some 99), none, .mov (.t 1)⟩,
  ⟨(some 100), none, .lenV (.t 99)⟩,
  ⟨(some 101), none, .bin .lss 3 (.t 98) (.t 100)⟩]
@[simp] def c_law7_OpenRows_r26 : List Ir := [⟨(some 104), none, .mov (.t 1)⟩,
  ⟨(some 105), none, .mov (.t 20)⟩,
  ⟨(some 106), none, .iadrS 2 (.t 104) (.t 105)⟩,
  ⟨(some 107), none, .fadr 0 (.t 106)⟩,
  ⟨(some 108), none, .ld (.t 107)⟩,
  ⟨(some 109), none, .mov (.t 1)⟩,
  ⟨(some 110), none, .mov (.t 20)⟩,
  ⟨(some 111), none, .iadrS 2 (.t 109) (.t 110)⟩,
  ⟨(some 112), none, .fadr 1 (.t 111)⟩,
  ⟨(some 113), none, .ld (.t 112)⟩,
  ⟨(some 114), none, .iadrA 48 1 (.t 18) (.t 108)⟩,
  ⟨none, none, .st 1 (.t 114) (.t 113)⟩]
@[simp] def c_law7_OpenRows_r27 : List Ir := [⟨(some 102), none, .mov (.t 20)⟩,
  ⟨(some 103), none, .bin .add 3 (.t 102) (.c (.int .i64 1))⟩,
  ⟨(some 20), none, .mov (.t 103)⟩]
def c_law7_OpenRows_l28 : IC := (.seq (.seq (.reg c_law7_OpenRows_r25) (.cond (.t 101) .skip (.exit 2))) (.seq (.block 3 (.regd c_law7_OpenRows_r26 [])) (.reg c_law7_OpenRows_r27)))
@[simp] def c_law7_OpenRows_r29 : List Ir := [⟨(some 21), none, .mov (.c (.int .i64 0))⟩]
@[simp] def c_law7_OpenRows_r30 : List Ir := [⟨(some 115), none, .mov (.t 21)⟩,
  ⟨(some 116), none, .bin .lss 3 (.t 115) (.c (.int .i64 48))⟩]
@[simp] def c_law7_OpenRows_r31 : List Ir := [⟨(some 119), none, .fadr 4 (.t 16)⟩,
  ⟨(some 120), none, .ld (.t 119)⟩,
  ⟨(some 121), none, .mov (.t 21)⟩,
  ⟨(some 122), none, .iadrS 1 (.t 120) (.t 121)⟩,
  ⟨(some 123), none, .ld (.t 122)⟩,
  ⟨(some 124), none, .mov (.t 21)⟩,
  ⟨(some 125), none, .iadrA 48 1 (.t 18) (.t 124)⟩,
  ⟨(some 126), none, .ld (.t 125)⟩,
  ⟨(some 127), none, .bin .neq 9 (.t 123) (.t 126)⟩]
@[simp] def c_law7_OpenRows_r32 : List Ir := [⟨(some 6), none, .mov (.c (.bool false))⟩]
@[simp] def c_law7_OpenRows_r33 : List Ir := [⟨(some 117), none, .mov (.t 21)⟩,
  ⟨(some 118), none, .bin .add 3 (.t 117) (.c (.int .i64 1))⟩,
  ⟨(some 21), none, .mov (.t 118)⟩]
def c_law7_OpenRows_l34 : IC := (.seq (.seq (.reg c_law7_OpenRows_r30) (.cond (.t 116) .skip (.exit 4))) (.seq (.block 5 (.seq (.regd c_law7_OpenRows_r31 []) (.cond (.t 127) (.seq (.reg c_law7_OpenRows_r32) .ret) .skip))) (.reg c_law7_OpenRows_r33)))
@[simp] def c_law7_OpenRows_r35 : List Ir := [⟨(some 128), none, .ldn 5 (.t 16)⟩,
  ⟨(some 129), none, .ldn 5 (.t 8)⟩,
  ⟨(some 130), none, .call f_law0_SamePager [(.t 128), (.t 129)]⟩,
  ⟨(some 6), none, .mov (.t 130)⟩]
@[simp] def c_law7_OpenRows : IFn := ⟨(.seq (.reg c_law7_OpenRows_r0) (.seq (.seq (.reg c_law7_OpenRows_r1) (.cond (.t 23) (.seq (.reg c_law7_OpenRows_r2) .ret) .skip)) (.seq (.seq (.reg c_law7_OpenRows_r3) (.cond (.t 31) (.seq (.reg c_law7_OpenRows_r4) .ret) .skip)) (.seq (.reg c_law7_OpenRows_r5) (.seq (.reg c_law7_OpenRows_r6) (.seq (.reg c_law7_OpenRows_r7) (.seq (.reg c_law7_OpenRows_r8) (.seq (.seq (.reg c_law7_OpenRows_r9) (.cond (.t 46) (.seq (.reg c_law7_OpenRows_r10) (.seq (.reg c_law7_OpenRows_r11) (.reg c_law7_OpenRows_r12))) .skip)) (.seq (.reg c_law7_OpenRows_r13) (.seq (.reg c_law7_OpenRows_r14) (.seq (.reg c_law7_OpenRows_r15) (.seq (.seq (.reg c_law7_OpenRows_r16) (.cond (.t 80) (.seq (.reg c_law7_OpenRows_r17) .ret) .skip)) (.seq (.reg c_law7_OpenRows_r18) (.seq (.seq (.reg c_law7_OpenRows_r19) (.block 0 (.loop c_law7_OpenRows_l23))) (.seq (.seq (.reg c_law7_OpenRows_r24) (.block 2 (.loop c_law7_OpenRows_l28))) (.seq (.seq (.reg c_law7_OpenRows_r29) (.block 4 (.loop c_law7_OpenRows_l34))) (.seq (.reg c_law7_OpenRows_r35) .ret))))))))))))))))), 131, [.tmp 6]⟩

theorem fc_law7_OpenRows : fnAt Try.prog f_law7_OpenRows = some c_law7_OpenRows := by kernel_rfl
end Go.AM
