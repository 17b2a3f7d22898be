import Derived.Test.YtiiliffoclejlaaR6Code
import Derived.KernelRfl
namespace Go.AM
open Go.Proofs
set_option maxRecDepth 1000000
@[simp] def c_law7_OpenTorn_r0 : List Ir := [⟨(some 6), none, .mov (.c (.bool false))⟩]
@[simp] def c_law7_OpenTorn_r1 : List Ir := [⟨(some 18), none, .call f_law7_awake []⟩,
  ⟨(some 19), none, .un .not (.t 18)⟩]
@[simp] def c_law7_OpenTorn_r2 : List Ir := [⟨(some 6), none, .mov (.c (.bool false))⟩]
@[simp] def c_law7_OpenTorn_r3 : List Ir := [⟨(some 20), none, .mov (.t 0)⟩,
  ⟨(some 21), none, .call f_ref1_ImagesMay [(.t 20)]⟩,
  ⟨(some 22), none, .un .not (.t 21)⟩]
@[simp] def c_law7_OpenTorn_r4 : List Ir := [⟨(some 6), none, .mov (.c (.bool true))⟩]
@[simp] def c_law7_OpenTorn_r5 : List Ir := [⟨(some 23), none, .call f_ref1_NewDisk []⟩,
  ⟨(some 24), none, .call f_ref1_Format []⟩,
  ⟨(some 25), none, .call f_law7_done [(.t 23), (.t 24)]⟩,
  ⟨(some 7), none, .new [(.slice none 0 0), (.slice none 0 0)]⟩,
  ⟨none, none, .st 2 (.t 7) (.t 25)⟩]
@[simp] def c_law7_OpenTorn_r6 : List Ir := [⟨(some 27), none, .call f_ref1_Blank []⟩,
  ⟨(some 28), none, .mov (.t 0)⟩,
  ⟨(some 29), none, .call f_ref1_Commit [(.t 27), (.t 28)]⟩,
  ⟨(some 26), none, .mov (.t 29)⟩,
  ⟨(some 30), none, .ext 0 (.t 26)⟩,
  ⟨(some 31), none, .ext 1 (.t 26)⟩,
  ⟨(some 32), none, .ext 2 (.t 26)⟩,
  ⟨(some 9), none, .new [(.int .i64 0), (.int .i64 0), (.int .i64 0), (.int .i64 0), (.slice none 0 0)]⟩,
  ⟨(some 8), none, .mov (.t 30)⟩,
  ⟨none, none, .st 5 (.t 9) (.t 31)⟩,
  ⟨(some 10), none, .mov (.t 32)⟩]
@[simp] def c_law7_OpenTorn_r7 : List Ir := [⟨(some 33), none, .ldn 2 (.t 7)⟩,
  ⟨(some 34), none, .mov (.t 8)⟩,
  ⟨(some 35), none, .call f_law7_done [(.t 33), (.t 34)]⟩,
  ⟨none, none, .st 2 (.t 7) (.t 35)⟩]
@[simp] def c_law7_OpenTorn_r8 : List Ir := [⟨(some 37), none, .ldn 5 (.t 9)⟩,
  ⟨(some 38), none, .call f_ref1_Fresh [(.t 37)]⟩,
  ⟨(some 36), none, .mov (.t 38)⟩,
  ⟨(some 39), none, .ext 0 (.t 36)⟩,
  ⟨(some 40), none, .ext 1 (.t 36)⟩,
  ⟨(some 41), none, .ext 2 (.t 36)⟩,
  ⟨(some 11), none, .mov (.t 39)⟩,
  ⟨none, none, .st 5 (.t 9) (.t 40)⟩,
  ⟨(some 12), none, .mov (.t 41)⟩]
@[simp] def c_law7_OpenTorn_r9 : List Ir := [⟨(some 42), none, .ldn 2 (.t 7)⟩,
  ⟨(some 43), none, .mov (.t 11)⟩,
  ⟨(some 44), none, .call f_law7_done [(.t 42), (.t 43)]⟩,
  ⟨none, none, .st 2 (.t 7) (.t 44)⟩]
@[simp] def c_law7_OpenTorn_r10 : List Ir := [⟨(some 45), none, .fadr 0 (.t 7)⟩,
  ⟨(some 46), none, .ld (.t 45)⟩,
  ⟨(some 47), none, .lenV (.t 46)⟩,
  ⟨(some 48), none, .bin .neq 3 (.t 47) (.c (.int .i64 394))⟩]
@[simp] def c_law7_OpenTorn_r11 : List Ir := [⟨(some 6), none, .mov (.c (.bool false))⟩]
@[simp] def c_law7_OpenTorn_r12 : List Ir := [⟨(some 49), none, .mov (.t 1)⟩,
  ⟨(some 50), none, .ii .u64 (.t 49)⟩,
  ⟨(some 51), none, .bin .rem 55 (.t 50) (.c (.int .u64 48))⟩,
  ⟨(some 52), none, .ii .i64 (.t 51)⟩,
  ⟨(some 13), none, .mov (.t 52)⟩]
@[simp] def c_law7_OpenTorn_r13 : List Ir := [⟨(some 53), none, .mov (.t 13)⟩,
  ⟨(some 54), none, .bin .mul 3 (.c (.int .i64 4)) (.t 53)⟩,
  ⟨(some 55), none, .bin .add 3 (.c (.int .i64 202)) (.t 54)⟩,
  ⟨(some 56), none, .mov (.t 2)⟩,
  ⟨(some 57), none, .bin .and 3 (.t 56) (.c (.int .i64 3))⟩,
  ⟨(some 58), none, .bin .add 3 (.t 55) (.t 57)⟩,
  ⟨(some 14), none, .mov (.t 58)⟩]
@[simp] def c_law7_OpenTorn_r14 : List Ir := [⟨(some 59), none, .fadr 0 (.t 7)⟩,
  ⟨(some 60), none, .ld (.t 59)⟩,
  ⟨(some 61), none, .mov (.t 14)⟩,
  ⟨(some 62), none, .mks 1 1 [(.int .u8 0)] (.c (.int .i64 64)) (.c (.int .i64 64))⟩,
  ⟨(some 63), none, .b2s (.t 62)⟩,
  ⟨(some 64), none, .iadrS 1 (.t 60) (.t 61)⟩,
  ⟨none, none, .st 1 (.t 64) (.t 63)⟩]
@[simp] def c_law7_OpenTorn_r15 : List Ir := [⟨(some 66), none, .ldn 2 (.t 7)⟩,
  ⟨(some 67), none, .call f_open_Open [(.t 66)]⟩,
  ⟨(some 65), none, .mov (.t 67)⟩,
  ⟨(some 68), none, .ext 0 (.t 65)⟩,
  ⟨(some 69), none, .ext 1 (.t 65)⟩,
  ⟨(some 15), none, .new [(.int .i64 0), (.int .i64 0), (.int .i64 0), (.int .i64 0), (.slice none 0 0)]⟩,
  ⟨none, none, .st 5 (.t 15) (.t 68)⟩,
  ⟨(some 16), none, .mov (.t 69)⟩]
@[simp] def c_law7_OpenTorn_r16 : List Ir := [⟨(some 70), none, .mov (.t 16)⟩,
  ⟨(some 71), none, .call f_law0_Num [(.t 70)]⟩,
  ⟨(some 72), none, .bin .neq 3 (.t 71) (.c (.int .i64 0))⟩,
  ⟨(some 73), none, .mov (.t 72)⟩,
  ⟨(some 74), (some (73, false)), .fadr 4 (.t 15)⟩,
  ⟨(some 75), (some (73, false)), .ld (.t 74)⟩,
  ⟨(some 76), (some (73, false)), .lenV (.t 75)⟩,
  ⟨(some 77), (some (73, false)), .bin .neq 3 (.t 76) (.c (.int .i64 48))⟩,
  ⟨(some 78), none, .pick (.t 73) (.c (.bool true)) (.t 77)⟩]
@[simp] def c_law7_OpenTorn_r17 : List Ir := [⟨(some 6), none, .mov (.c (.bool false))⟩]
@[simp] def c_law7_OpenTorn_r18 : List Ir := [⟨(some 17), none, .mov (.c (.int .i64 0))⟩]
@[simp] def c_law7_OpenTorn_r19 : List Ir := [⟨(some 79), none, .mov (.t 17)⟩,
  ⟨(some 80), none, .bin .lss 3 (.t 79) (.c (.int .i64 48))⟩]
@[simp] def c_law7_OpenTorn_r20 : List Ir := [⟨(some 83), none, .mov (.t 17)⟩,
  ⟨(some 84), none, .mov (.t 13)⟩,
  ⟨(some 85), none, .bin .neq 3 (.t 83) (.t 84)⟩,
  ⟨(some 86), none, .mov (.t 85)⟩,
  ⟨(some 87), (some (86, true)), .fadr 4 (.t 15)⟩,
  ⟨(some 88), (some (86, true)), .ld (.t 87)⟩,
  ⟨(some 89), (some (86, true)), .mov (.t 17)⟩,
  ⟨(some 90), (some (86, true)), .iadrS 1 (.t 88) (.t 89)⟩,
  ⟨(some 91), (some (86, true)), .ld (.t 90)⟩,
  ⟨(some 92), (some (86, true)), .fadr 4 (.t 9)⟩,
  ⟨(some 93), (some (86, true)), .ld (.t 92)⟩,
  ⟨(some 94), (some (86, true)), .mov (.t 17)⟩,
  ⟨(some 95), (some (86, true)), .iadrS 1 (.t 93) (.t 94)⟩,
  ⟨(some 96), (some (86, true)), .ld (.t 95)⟩,
  ⟨(some 97), (some (86, true)), .bin .neq 9 (.t 91) (.t 96)⟩,
  ⟨(some 98), none, .pick (.t 86) (.t 97) (.c (.bool false))⟩]
@[simp] def c_law7_OpenTorn_r21 : List Ir := [⟨(some 6), none, .mov (.c (.bool false))⟩]
@[simp] def c_law7_OpenTorn_r22 : List Ir := [⟨(some 81), none, .mov (.t 17)⟩,
  ⟨(some 82), none, .bin .add 3 (.t 81) (.c (.int .i64 1))⟩,
  ⟨(some 17), none, .mov (.t 82)⟩]
def c_law7_OpenTorn_l23 : IC := (.seq (.seq (.reg c_law7_OpenTorn_r19) (.cond (.t 80) .skip (.exit 0))) (.seq (.block 1 (.seq (.regd c_law7_OpenTorn_r20 []) (.cond (.t 98) (.seq (.reg c_law7_OpenTorn_r21) .ret) .skip))) (.reg c_law7_OpenTorn_r22)))
@[simp] def c_law7_OpenTorn_r24 : List Ir := [⟨(some 99), none, .fadr 4 (.t 15)⟩,
  ⟨(some 100), none, .ld (.t 99)⟩,
  ⟨(some 101), none, .mov (.t 13)⟩,
  ⟨(some 102), none, .iadrS 1 (.t 100) (.t 101)⟩,
  ⟨(some 103), none, .ld (.t 102)⟩,
  ⟨(some 104), none, .bin .eql 9 (.t 103) (.c (.string ⟨#[]⟩))⟩,
  ⟨(some 6), none, .mov (.t 104)⟩]
@[simp] def c_law7_OpenTorn : IFn := ⟨(.seq (.reg c_law7_OpenTorn_r0) (.seq (.seq (.reg c_law7_OpenTorn_r1) (.cond (.t 19) (.seq (.reg c_law7_OpenTorn_r2) .ret) .skip)) (.seq (.seq (.reg c_law7_OpenTorn_r3) (.cond (.t 22) (.seq (.reg c_law7_OpenTorn_r4) .ret) .skip)) (.seq (.reg c_law7_OpenTorn_r5) (.seq (.reg c_law7_OpenTorn_r6) (.seq (.reg c_law7_OpenTorn_r7) (.seq (.reg c_law7_OpenTorn_r8) (.seq (.reg c_law7_OpenTorn_r9) (.seq (.seq (.reg c_law7_OpenTorn_r10) (.cond (.t 48) (.seq (.reg c_law7_OpenTorn_r11) .ret) .skip)) (.seq (.reg c_law7_OpenTorn_r12) (.seq (.reg c_law7_OpenTorn_r13) (.seq (.regd c_law7_OpenTorn_r14 []) (.seq (.reg c_law7_OpenTorn_r15) (.seq (.seq (.reg c_law7_OpenTorn_r16) (.cond (.t 78) (.seq (.reg c_law7_OpenTorn_r17) .ret) .skip)) (.seq (.seq (.reg c_law7_OpenTorn_r18) (.block 0 (.loop c_law7_OpenTorn_l23))) (.seq (.reg c_law7_OpenTorn_r24) .ret)))))))))))))))), 105, [.tmp 6]⟩

theorem fc_law7_OpenTorn : fnAt Try.prog f_law7_OpenTorn = some c_law7_OpenTorn := by kernel_rfl
end Go.AM
