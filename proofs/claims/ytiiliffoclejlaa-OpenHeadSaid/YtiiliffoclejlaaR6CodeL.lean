import Derived.Test.YtiiliffoclejlaaR6Code
import Derived.KernelRfl
namespace Go.AM
open Go.Proofs
set_option maxRecDepth 1000000
@[simp] def c_law7_OpenHead_r0 : List Ir := [⟨(some 4), none, .mov (.c (.bool false))⟩]
@[simp] def c_law7_OpenHead_r1 : List Ir := [⟨(some 21), none, .call f_law7_awake []⟩,
  ⟨(some 22), none, .un .not (.t 21)⟩]
@[simp] def c_law7_OpenHead_r2 : List Ir := [⟨(some 4), none, .mov (.c (.bool false))⟩]
@[simp] def c_law7_OpenHead_r3 : List Ir := [⟨(some 23), none, .mov (.t 0)⟩,
  ⟨(some 24), none, .call f_ref1_ImagesMay [(.t 23)]⟩,
  ⟨(some 25), none, .un .not (.t 24)⟩]
@[simp] def c_law7_OpenHead_r4 : List Ir := [⟨(some 4), none, .mov (.c (.bool true))⟩]
@[simp] def c_law7_OpenHead_r5 : List Ir := [⟨(some 26), none, .call f_ref1_NewDisk []⟩,
  ⟨(some 27), none, .call f_ref1_Format []⟩,
  ⟨(some 28), none, .call f_law7_done [(.t 26), (.t 27)]⟩,
  ⟨(some 5), none, .new [(.slice none 0 0), (.slice none 0 0)]⟩,
  ⟨none, none, .st 2 (.t 5) (.t 28)⟩]
@[simp] def c_law7_OpenHead_r6 : List Ir := [⟨(some 30), none, .call f_ref1_Blank []⟩,
  ⟨(some 31), none, .mov (.t 0)⟩,
  ⟨(some 32), none, .call f_ref1_Commit [(.t 30), (.t 31)]⟩,
  ⟨(some 29), none, .mov (.t 32)⟩,
  ⟨(some 33), none, .ext 0 (.t 29)⟩,
  ⟨(some 34), none, .ext 1 (.t 29)⟩,
  ⟨(some 35), none, .ext 2 (.t 29)⟩,
  ⟨(some 7), none, .new [(.int .i64 0), (.int .i64 0), (.int .i64 0), (.int .i64 0), (.slice none 0 0)]⟩,
  ⟨(some 6), none, .mov (.t 33)⟩,
  ⟨none, none, .st 5 (.t 7) (.t 34)⟩,
  ⟨(some 8), none, .mov (.t 35)⟩]
@[simp] def c_law7_OpenHead_r7 : List Ir := [⟨(some 36), none, .ldn 2 (.t 5)⟩,
  ⟨(some 37), none, .mov (.t 6)⟩,
  ⟨(some 38), none, .call f_law7_done [(.t 36), (.t 37)]⟩,
  ⟨none, none, .st 2 (.t 5) (.t 38)⟩]
@[simp] def c_law7_OpenHead_r8 : List Ir := [⟨(some 40), none, .ldn 5 (.t 7)⟩,
  ⟨(some 41), none, .call f_ref1_Fresh [(.t 40)]⟩,
  ⟨(some 39), none, .mov (.t 41)⟩,
  ⟨(some 42), none, .ext 0 (.t 39)⟩,
  ⟨(some 43), none, .ext 1 (.t 39)⟩,
  ⟨(some 44), none, .ext 2 (.t 39)⟩,
  ⟨(some 9), none, .mov (.t 42)⟩,
  ⟨none, none, .st 5 (.t 7) (.t 43)⟩,
  ⟨(some 10), none, .mov (.t 44)⟩]
@[simp] def c_law7_OpenHead_r9 : List Ir := [⟨(some 45), none, .ldn 2 (.t 5)⟩,
  ⟨(some 46), none, .mov (.t 9)⟩,
  ⟨(some 47), none, .call f_law7_done [(.t 45), (.t 46)]⟩,
  ⟨none, none, .st 2 (.t 5) (.t 47)⟩]
@[simp] def c_law7_OpenHead_r10 : List Ir := [⟨(some 48), none, .fadr 0 (.t 5)⟩,
  ⟨(some 49), none, .ld (.t 48)⟩,
  ⟨(some 50), none, .lenV (.t 49)⟩,
  ⟨(some 51), none, .bin .neq 3 (.t 50) (.c (.int .i64 394))⟩]
@[simp] def c_law7_OpenHead_r11 : List Ir := [⟨(some 4), none, .mov (.c (.bool false))⟩]
@[simp] def c_law7_OpenHead_r12 : List Ir := [⟨(some 52), none, .mks 1 1 [(.int .u8 0)] (.c (.int .i64 64)) (.c (.int .i64 64))⟩,
  ⟨(some 53), none, .b2s (.t 52)⟩,
  ⟨(some 11), none, .mov (.t 53)⟩]
@[simp] def c_law7_OpenHead_r13 : List Ir := [⟨(some 54), none, .mkrow 1 0 [] []⟩,
  ⟨(some 55), none, .fadr 0 (.t 5)⟩,
  ⟨(some 56), none, .ld (.t 55)⟩,
  ⟨(some 57), none, .app 1 16 (.t 54) (.t 56)⟩,
  ⟨(some 58), none, .build [(.slice none 0 0), (.slice none 0 0)] [(0, (1, (.t 57)))]⟩,
  ⟨(some 12), none, .new [(.slice none 0 0), (.slice none 0 0)]⟩,
  ⟨none, none, .st 2 (.t 12) (.t 58)⟩]
@[simp] def c_law7_OpenHead_r14 : List Ir := [⟨(some 59), none, .fadr 0 (.t 12)⟩,
  ⟨(some 60), none, .ld (.t 59)⟩,
  ⟨(some 61), none, .mov (.t 11)⟩,
  ⟨(some 62), none, .iadrS 1 (.t 60) (.c (.int .i64 0))⟩,
  ⟨none, none, .st 1 (.t 62) (.t 61)⟩]
@[simp] def c_law7_OpenHead_r15 : List Ir := [⟨(some 63), none, .mkrow 1 0 [] []⟩,
  ⟨(some 64), none, .fadr 0 (.t 12)⟩,
  ⟨(some 65), none, .ld (.t 64)⟩,
  ⟨(some 66), none, .app 1 16 (.t 63) (.t 65)⟩,
  ⟨(some 67), none, .build [(.slice none 0 0), (.slice none 0 0)] [(0, (1, (.t 66)))]⟩,
  ⟨(some 13), none, .new [(.slice none 0 0), (.slice none 0 0)]⟩,
  ⟨none, none, .st 2 (.t 13) (.t 67)⟩]
@[simp] def c_law7_OpenHead_r16 : List Ir := [⟨(some 68), none, .fadr 0 (.t 13)⟩,
  ⟨(some 69), none, .ld (.t 68)⟩,
  ⟨(some 70), none, .mov (.t 11)⟩,
  ⟨(some 71), none, .iadrS 1 (.t 69) (.c (.int .i64 1))⟩,
  ⟨none, none, .st 1 (.t 71) (.t 70)⟩]
@[simp] def c_law7_OpenHead_r17 : List Ir := [⟨(some 72), none, .mkrow 1 0 [] []⟩,
  ⟨(some 73), none, .fadr 0 (.t 5)⟩,
  ⟨(some 74), none, .ld (.t 73)⟩,
  ⟨(some 75), none, .app 1 16 (.t 72) (.t 74)⟩,
  ⟨(some 76), none, .build [(.slice none 0 0), (.slice none 0 0)] [(0, (1, (.t 75)))]⟩,
  ⟨(some 14), none, .new [(.slice none 0 0), (.slice none 0 0)]⟩,
  ⟨none, none, .st 2 (.t 14) (.t 76)⟩]
@[simp] def c_law7_OpenHead_r18 : List Ir := [⟨(some 77), none, .fadr 0 (.t 14)⟩,
  ⟨(some 78), none, .ld (.t 77)⟩,
  ⟨(some 79), none, .mov (.t 1)⟩,
  ⟨(some 80), none, .ii .u64 (.t 79)⟩,
  ⟨(some 81), none, .bin .rem 55 (.t 80) (.c (.int .u64 200))⟩,
  ⟨(some 82), none, .ii .i64 (.t 81)⟩,
  ⟨(some 83), none, .bin .add 3 (.c (.int .i64 2)) (.t 82)⟩,
  ⟨(some 84), none, .mov (.t 11)⟩,
  ⟨(some 85), none, .iadrS 1 (.t 78) (.t 83)⟩,
  ⟨none, none, .st 1 (.t 85) (.t 84)⟩]
@[simp] def c_law7_OpenHead_r19 : List Ir := [⟨(some 87), none, .ldn 2 (.t 12)⟩,
  ⟨(some 88), none, .call f_open_Open [(.t 87)]⟩,
  ⟨(some 86), none, .mov (.t 88)⟩,
  ⟨(some 89), none, .ext 0 (.t 86)⟩,
  ⟨(some 90), none, .ext 1 (.t 86)⟩,
  ⟨(some 15), none, .new [(.int .i64 0), (.int .i64 0), (.int .i64 0), (.int .i64 0), (.slice none 0 0)]⟩,
  ⟨none, none, .st 5 (.t 15) (.t 89)⟩,
  ⟨(some 16), none, .mov (.t 90)⟩]
@[simp] def c_law7_OpenHead_r20 : List Ir := [⟨(some 92), none, .ldn 2 (.t 13)⟩,
  ⟨(some 93), none, .call f_open_Open [(.t 92)]⟩,
  ⟨(some 91), none, .mov (.t 93)⟩,
  ⟨(some 94), none, .ext 0 (.t 91)⟩,
  ⟨(some 95), none, .ext 1 (.t 91)⟩,
  ⟨(some 17), none, .new [(.int .i64 0), (.int .i64 0), (.int .i64 0), (.int .i64 0), (.slice none 0 0)]⟩,
  ⟨none, none, .st 5 (.t 17) (.t 94)⟩,
  ⟨(some 18), none, .mov (.t 95)⟩]
@[simp] def c_law7_OpenHead_r21 : List Ir := [⟨(some 97), none, .ldn 2 (.t 14)⟩,
  ⟨(some 98), none, .call f_open_Open [(.t 97)]⟩,
  ⟨(some 96), none, .mov (.t 98)⟩,
  ⟨(some 99), none, .ext 0 (.t 96)⟩,
  ⟨(some 100), none, .ext 1 (.t 96)⟩,
  ⟨(some 19), none, .new [(.int .i64 0), (.int .i64 0), (.int .i64 0), (.int .i64 0), (.slice none 0 0)]⟩,
  ⟨none, none, .st 5 (.t 19) (.t 99)⟩,
  ⟨(some 20), none, .mov (.t 100)⟩]
@[simp] def c_law7_OpenHead_r22 : List Ir := [⟨(some 101), none, .mov (.t 16)⟩,
  ⟨(some 102), none, .call f_law0_Num [(.t 101)]⟩,
  ⟨(some 103), none, .bin .eql 3 (.t 102) (.c (.int .i64 0))⟩,
  ⟨(some 104), none, .mov (.t 103)⟩,
  ⟨(some 105), (some (104, true)), .ldn 5 (.t 15)⟩,
  ⟨(some 106), (some (104, true)), .ldn 5 (.t 7)⟩,
  ⟨(some 107), (some (104, true)), .call f_law0_SamePager [(.t 105), (.t 106)]⟩,
  ⟨(some 108), none, .pick (.t 104) (.t 107) (.c (.bool false))⟩,
  ⟨(some 109), none, .mov (.t 108)⟩,
  ⟨(some 110), (some (109, true)), .mov (.t 18)⟩,
  ⟨(some 111), (some (109, true)), .call f_law0_Num [(.t 110)]⟩,
  ⟨(some 112), (some (109, true)), .bin .eql 3 (.t 111) (.c (.int .i64 501))⟩,
  ⟨(some 113), none, .pick (.t 109) (.t 112) (.c (.bool false))⟩,
  ⟨(some 114), none, .mov (.t 113)⟩,
  ⟨(some 115), (some (114, true)), .mov (.t 20)⟩,
  ⟨(some 116), (some (114, true)), .call f_law0_Num [(.t 115)]⟩,
  ⟨(some 117), (some (114, true)), .bin .eql 3 (.t 116) (.c (.int .i64 0))⟩,
  ⟨(some 118), none, .pick (.t 114) (.t 117) (.c (.bool false))⟩,
  ⟨(some 119), none, .mov (.t 118)⟩,
  ⟨(some 120), (some (119, true)), .ldn 5 (.t 19)⟩,
  ⟨(some 121), (some (119, true)), .ldn 5 (.t 7)⟩,
  ⟨(some 122), (some (119, true)), .call f_law0_SamePager [(.t 120), (.t 121)]⟩,
  ⟨(some 123), none, .pick (.t 119) (.t 122) (.c (.bool false))⟩,
  ⟨(some 4), none, .mov (.t 123)⟩]
@[simp] def c_law7_OpenHead : IFn := ⟨(.seq (.reg c_law7_OpenHead_r0) (.seq (.seq (.reg c_law7_OpenHead_r1) (.cond (.t 22) (.seq (.reg c_law7_OpenHead_r2) .ret) .skip)) (.seq (.seq (.reg c_law7_OpenHead_r3) (.cond (.t 25) (.seq (.reg c_law7_OpenHead_r4) .ret) .skip)) (.seq (.reg c_law7_OpenHead_r5) (.seq (.reg c_law7_OpenHead_r6) (.seq (.reg c_law7_OpenHead_r7) (.seq (.reg c_law7_OpenHead_r8) (.seq (.reg c_law7_OpenHead_r9) (.seq (.seq (.reg c_law7_OpenHead_r10) (.cond (.t 51) (.seq (.reg c_law7_OpenHead_r11) .ret) .skip)) (.seq (.reg c_law7_OpenHead_r12) (.seq (.reg c_law7_OpenHead_r13) (.seq (.reg c_law7_OpenHead_r14) (.seq (.reg c_law7_OpenHead_r15) (.seq (.reg c_law7_OpenHead_r16) (.seq (.reg c_law7_OpenHead_r17) (.seq (.reg c_law7_OpenHead_r18) (.seq (.reg c_law7_OpenHead_r19) (.seq (.reg c_law7_OpenHead_r20) (.seq (.reg c_law7_OpenHead_r21) (.seq (.reg c_law7_OpenHead_r22) .ret)))))))))))))))))))), 124, [.tmp 4]⟩

theorem fc_law7_OpenHead : fnAt Try.prog f_law7_OpenHead = some c_law7_OpenHead := by kernel_rfl
end Go.AM
