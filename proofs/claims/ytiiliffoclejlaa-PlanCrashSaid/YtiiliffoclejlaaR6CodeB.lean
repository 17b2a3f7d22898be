import Derived.Test.YtiiliffoclejlaaR6CodeA
namespace Go.AM
open Go.Proofs
set_option maxRecDepth 1000000
@[simp] def c_ref1_Crash_r0 : List Ir := [⟨(some 4), none, .box 2 (.t 0)⟩,
  ⟨(some 8), none, .new [(.slice none 0 0), (.slice none 0 0)]⟩,
  ⟨(some 9), none, .mov (.c (.int .i64 0))⟩]
@[simp] def c_ref1_Crash_r1 : List Ir := [⟨(some 15), none, .ldn 2 (.t 4)⟩,
  ⟨(some 16), none, .call f_ref1_DiskMay [(.t 15)]⟩,
  ⟨(some 17), none, .un .not (.t 16)⟩,
  ⟨(some 18), none, .mov (.t 17)⟩,
  ⟨(some 19), (some (18, false)), .mov (.t 3)⟩,
  ⟨(some 20), (some (18, false)), .bin .lss 3 (.t 19) (.c (.int .i64 0))⟩,
  ⟨(some 21), none, .pick (.t 18) (.c (.bool true)) (.t 20)⟩,
  ⟨(some 22), none, .mov (.t 21)⟩,
  ⟨(some 23), (some (22, false)), .mov (.t 3)⟩,
  ⟨(some 24), (some (22, false)), .bin .gtr 3 (.t 23) (.c (.int .i64 64))⟩,
  ⟨(some 25), none, .pick (.t 22) (.c (.bool true)) (.t 24)⟩]
@[simp] def c_ref1_Crash_r2 : List Ir := [⟨(some 26), none, .build [(.slice none 0 0), (.slice none 0 0)] []⟩,
  ⟨none, none, .st 2 (.t 8) (.t 26)⟩,
  ⟨(some 9), none, .mov (.c (.int .i64 200))⟩]
@[simp] def c_ref1_Crash_r3 : List Ir := [⟨(some 27), none, .ldn 2 (.t 4)⟩,
  ⟨(some 28), none, .call f_ref1_CopyDisk [(.t 27)]⟩,
  ⟨(some 10), none, .new [(.slice none 0 0), (.slice none 0 0)]⟩,
  ⟨none, none, .st 2 (.t 10) (.t 28)⟩]
@[simp] def c_ref1_Crash_r4 : List Ir := [⟨(some 29), none, .fadr 1 (.t 10)⟩,
  ⟨none, none, .st 1 (.t 29) (.c (.slice none 0 0))⟩]
@[simp] def c_ref1_Crash_r5 : List Ir := [⟨(some 11), none, .mov (.c (.int .i64 0))⟩]
@[simp] def c_ref1_Crash_r6 : List Ir := [⟨(some 30), none, .mov (.t 11)⟩,
  ⟨(some 31), none, .fadr 1 (.t 4)⟩,
  ⟨(some 32), none, .ld (.t 31)⟩,
  ⟨(some 33), none, .lenV (.t 32)⟩,
  ⟨(some 34), none, .bin .lss 3 (.t 30) (.t 33)⟩]
@[simp] def c_ref1_Crash_r7 : List Ir := [⟨(some 37), none, .fadr 1 (.t 4)⟩,
  ⟨(some 38), none, .ld (.t 37)⟩,
  ⟨(some 39), none, .mov (.t 11)⟩,
  ⟨(some 40), none, .iadrS 2 (.t 38) (.t 39)⟩,
  ⟨(some 41), none, .ldn 2 (.t 40)⟩,
  ⟨(some 12), none, .new [(.int .i64 0), (.string ⟨#[]⟩)]⟩,
  ⟨none, none, .st 2 (.t 12) (.t 41)⟩]
@[simp] def c_ref1_Crash_r8 : List Ir := [⟨(some 42), none, .mov (.t 11)⟩,
  ⟨(some 43), none, .mov (.t 2)⟩,
  ⟨(some 44), none, .bin .eql 3 (.t 42) (.t 43)⟩]
@[simp] def c_ref1_Crash_r9 : List Ir := [⟨(some 46), none, .fadr 0 (.t 10)⟩,
  ⟨(some 47), none, .ld (.t 46)⟩,
  ⟨(some 48), none, .fadr 0 (.t 12)⟩,
  ⟨(some 49), none, .ld (.t 48)⟩,
  ⟨(some 50), none, .iadrS 1 (.t 47) (.t 49)⟩,
  ⟨(some 51), none, .ld (.t 50)⟩,
  ⟨(some 52), none, .fadr 1 (.t 12)⟩,
  ⟨(some 53), none, .ld (.t 52)⟩,
  ⟨(some 54), none, .mov (.t 3)⟩,
  ⟨(some 55), none, .call f_ref1_Torn [(.t 51), (.t 53), (.t 54)]⟩,
  ⟨(some 45), none, .mov (.t 55)⟩,
  ⟨(some 56), none, .ext 0 (.t 45)⟩,
  ⟨(some 57), none, .ext 1 (.t 45)⟩,
  ⟨(some 13), none, .mov (.t 56)⟩,
  ⟨(some 14), none, .mov (.t 57)⟩]
@[simp] def c_ref1_Crash_r10 : List Ir := [⟨(some 58), none, .fadr 0 (.t 10)⟩,
  ⟨(some 59), none, .ld (.t 58)⟩,
  ⟨(some 60), none, .fadr 0 (.t 12)⟩,
  ⟨(some 61), none, .ld (.t 60)⟩,
  ⟨(some 62), none, .mov (.t 13)⟩,
  ⟨(some 63), none, .iadrS 1 (.t 59) (.t 61)⟩,
  ⟨none, none, .st 1 (.t 63) (.t 62)⟩]
@[simp] def c_ref1_Crash_r11 : List Ir := [⟨(some 64), none, .mov (.t 11)⟩,
  ⟨(some 65), none, .mov (.t 1)⟩,
  ⟨(some 66), none, .lenS (.t 65)⟩,
  ⟨(some 67), none, .bin .lss 3 (.t 64) (.t 66)⟩,
  ⟨(some 68), none, .mov (.t 67)⟩,
  ⟨(some 69), (some (68, true)), .mov (.t 1)⟩,
  ⟨(some 70), (some (68, true)), .mov (.t 11)⟩,
  ⟨(some 71), (some (68, true)), .idxS (.t 69) (.t 70)⟩,
  ⟨(some 72), (some (68, true)), .bin .and 5 (.t 71) (.c (.int .u8 1))⟩,
  ⟨(some 73), (some (68, true)), .bin .eql 5 (.t 72) (.c (.int .u8 1))⟩,
  ⟨(some 74), none, .pick (.t 68) (.t 73) (.c (.bool false))⟩]
@[simp] def c_ref1_Crash_r12 : List Ir := [⟨(some 75), none, .fadr 0 (.t 10)⟩,
  ⟨(some 76), none, .ld (.t 75)⟩,
  ⟨(some 77), none, .fadr 0 (.t 12)⟩,
  ⟨(some 78), none, .ld (.t 77)⟩,
  ⟨(some 79), none, .fadr 1 (.t 12)⟩,
  ⟨(some 80), none, .ld (.t 79)⟩,
  ⟨(some 81), none, .iadrS 1 (.t 76) (.t 78)⟩,
  ⟨none, none, .st 1 (.t 81) (.t 80)⟩]
@[simp] def c_ref1_Crash_r13 : List Ir := [⟨(some 35), none, .mov (.t 11)⟩,
  ⟨(some 36), none, .bin .add 3 (.t 35) (.c (.int .i64 1))⟩,
  ⟨(some 11), none, .mov (.t 36)⟩]
def c_ref1_Crash_l14 : IC := (.seq (.seq (.reg c_ref1_Crash_r6) (.cond (.t 34) .skip (.exit 0))) (.seq (.block 1 (.seq (.reg c_ref1_Crash_r7) (.seq (.reg c_ref1_Crash_r8) (.cond (.t 44) (.seq (.regd c_ref1_Crash_r9 []) (.reg c_ref1_Crash_r10)) (.seq (.reg c_ref1_Crash_r11) (.cond (.t 74) (.reg c_ref1_Crash_r12) .skip)))))) (.reg c_ref1_Crash_r13)))
@[simp] def c_ref1_Crash_r15 : List Ir := [⟨(some 82), none, .ldn 2 (.t 10)⟩,
  ⟨none, none, .st 2 (.t 8) (.t 82)⟩,
  ⟨(some 9), none, .mov (.c (.int .i64 0))⟩]
@[simp] def c_ref1_Crash : IFn := ⟨(.seq (.reg c_ref1_Crash_r0) (.seq (.seq (.reg c_ref1_Crash_r1) (.cond (.t 25) (.seq (.reg c_ref1_Crash_r2) .ret) .skip)) (.seq (.reg c_ref1_Crash_r3) (.seq (.reg c_ref1_Crash_r4) (.seq (.seq (.reg c_ref1_Crash_r5) (.block 0 (.loop c_ref1_Crash_l14))) (.seq (.reg c_ref1_Crash_r15) .ret)))))), 83, [.ldn 8 2, .tmp 9]⟩

theorem fc_ref1_Crash : fnAt Try.prog f_ref1_Crash = some c_ref1_Crash := by kernel_rfl
@[simp] def c_law0_Num_r0 : List Ir := [⟨(some 2), none, .mov (.c (.int .i64 0))⟩]
@[simp] def c_law0_Num_r1 : List Ir := [⟨(some 3), none, .mov (.t 0)⟩,
  ⟨(some 2), none, .mov (.t 3)⟩]
@[simp] def c_law0_Num : IFn := ⟨(.seq (.reg c_law0_Num_r0) (.seq (.reg c_law0_Num_r1) .ret)), 4, [.tmp 2]⟩

theorem fc_law0_Num : fnAt Try.prog f_law0_Num = some c_law0_Num := by kernel_rfl
@[simp] def c_law0_SameDisk_r0 : List Ir := [⟨(some 2), none, .box 2 (.t 0)⟩,
  ⟨(some 3), none, .box 2 (.t 1)⟩,
  ⟨(some 4), none, .mov (.c (.bool false))⟩]
@[simp] def c_law0_SameDisk_r1 : List Ir := [⟨(some 5), none, .fadr 0 (.t 2)⟩,
  ⟨(some 6), none, .ld (.t 5)⟩,
  ⟨(some 7), none, .fadr 0 (.t 3)⟩,
  ⟨(some 8), none, .ld (.t 7)⟩,
  ⟨(some 9), none, .call f_law0_SameTexts [(.t 6), (.t 8)]⟩,
  ⟨(some 10), none, .mov (.t 9)⟩,
  ⟨(some 11), (some (10, true)), .fadr 1 (.t 2)⟩,
  ⟨(some 12), (some (10, true)), .ld (.t 11)⟩,
  ⟨(some 13), (some (10, true)), .fadr 1 (.t 3)⟩,
  ⟨(some 14), (some (10, true)), .ld (.t 13)⟩,
  ⟨(some 15), (some (10, true)), .call f_law0_SameWrites [(.t 12), (.t 14)]⟩,
  ⟨(some 16), none, .pick (.t 10) (.t 15) (.c (.bool false))⟩,
  ⟨(some 4), none, .mov (.t 16)⟩]
@[simp] def c_law0_SameDisk : IFn := ⟨(.seq (.reg c_law0_SameDisk_r0) (.seq (.reg c_law0_SameDisk_r1) .ret)), 17, [.tmp 4]⟩

theorem fc_law0_SameDisk : fnAt Try.prog f_law0_SameDisk = some c_law0_SameDisk := by kernel_rfl
@[simp] def c_disk_May_r0 : List Ir := [⟨(some 1), none, .box 2 (.t 0)⟩,
  ⟨(some 2), none, .mov (.c (.bool false))⟩]
@[simp] def c_disk_May_r1 : List Ir := [⟨(some 3), none, .mov (.c (.func (.func f_disk_May_1) #[] #[]))⟩]
@[simp] def c_disk_May_r2 : List Ir := [⟨(some 4), none, .mov (.c (.func (.func f_disk_May_2) #[] #[]))⟩]
@[simp] def c_disk_May_r3 : List Ir := [⟨(some 5), none, .fadr 0 (.t 1)⟩,
  ⟨(some 6), none, .ld (.t 5)⟩,
  ⟨(some 7), none, .lenV (.t 6)⟩,
  ⟨(some 8), none, .bin .eql 3 (.t 7) (.c (.int .i64 394))⟩,
  ⟨(some 9), none, .mov (.t 8)⟩,
  ⟨(some 10), (some (9, true)), .fadr 1 (.t 1)⟩,
  ⟨(some 11), (some (9, true)), .ld (.t 10)⟩,
  ⟨(some 12), (some (9, true)), .lenV (.t 11)⟩,
  ⟨(some 13), (some (9, true)), .bin .leq 3 (.t 12) (.c (.int .i64 512))⟩,
  ⟨(some 14), none, .pick (.t 9) (.t 13) (.c (.bool false))⟩,
  ⟨(some 15), none, .mov (.t 14)⟩,
  ⟨(some 16), (some (15, true)), .fadr 0 (.t 1)⟩,
  ⟨(some 17), (some (15, true)), .ld (.t 16)⟩,
  ⟨(some 18), (some (15, true)), .mov (.t 3)⟩,
  ⟨(some 19), (some (15, true)), .call f_slices_ContainsFunc_string_string [(.t 17), (.t 18)]⟩,
  ⟨(some 20), (some (15, true)), .un .not (.t 19)⟩,
  ⟨(some 21), none, .pick (.t 15) (.t 20) (.c (.bool false))⟩,
  ⟨(some 22), none, .mov (.t 21)⟩,
  ⟨(some 23), (some (22, true)), .fadr 1 (.t 1)⟩,
  ⟨(some 24), (some (22, true)), .ld (.t 23)⟩,
  ⟨(some 25), (some (22, true)), .mov (.t 4)⟩,
  ⟨(some 26), (some (22, true)), .call f_slices_ContainsFunc_Write [(.t 24), (.t 25)]⟩,
  ⟨(some 27), (some (22, true)), .un .not (.t 26)⟩,
  ⟨(some 28), none, .pick (.t 22) (.t 27) (.c (.bool false))⟩,
  ⟨(some 2), none, .mov (.t 28)⟩]
@[simp] def c_disk_May : IFn := ⟨(.seq (.reg c_disk_May_r0) (.seq (.reg c_disk_May_r1) (.seq (.reg c_disk_May_r2) (.seq (.reg c_disk_May_r3) .ret)))), 29, [.tmp 2]⟩

theorem fc_disk_May : fnAt Try.prog f_disk_May = some c_disk_May := by kernel_rfl
@[simp] def c_ref1_DiskMay_r0 : List Ir := [⟨(some 1), none, .box 2 (.t 0)⟩,
  ⟨(some 2), none, .mov (.c (.bool false))⟩]
@[simp] def c_ref1_DiskMay_r1 : List Ir := [⟨(some 3), none, .mov (.c (.int .i64 0))⟩]
@[simp] def c_ref1_DiskMay_r2 : List Ir := [⟨(some 5), none, .mov (.t 3)⟩,
  ⟨(some 6), none, .fadr 0 (.t 1)⟩,
  ⟨(some 7), none, .ld (.t 6)⟩,
  ⟨(some 8), none, .lenV (.t 7)⟩,
  ⟨(some 9), none, .bin .lss 3 (.t 5) (.t 8)⟩]
@[simp] def c_ref1_DiskMay_r3 : List Ir := [⟨(some 12), none, .fadr 0 (.t 1)⟩,
  ⟨(some 13), none, .ld (.t 12)⟩,
  ⟨(some 14), none, .mov (.t 3)⟩,
  ⟨(some 15), none, .iadrS 1 (.t 13) (.t 14)⟩,
  ⟨(some 16), none, .ld (.t 15)⟩,
  ⟨(some 17), none, .lenS (.t 16)⟩,
  ⟨(some 18), none, .bin .neq 3 (.t 17) (.c (.int .i64 64))⟩]
@[simp] def c_ref1_DiskMay_r4 : List Ir := [⟨(some 2), none, .mov (.c (.bool false))⟩]
@[simp] def c_ref1_DiskMay_r5 : List Ir := [⟨(some 10), none, .mov (.t 3)⟩,
  ⟨(some 11), none, .bin .add 3 (.t 10) (.c (.int .i64 1))⟩,
  ⟨(some 3), none, .mov (.t 11)⟩]
def c_ref1_DiskMay_l6 : IC := (.seq (.seq (.reg c_ref1_DiskMay_r2) (.cond (.t 9) .skip (.exit 0))) (.seq (.block 1 (.seq (.reg c_ref1_DiskMay_r3) (.cond (.t 18) (.seq (.reg c_ref1_DiskMay_r4) .ret) .skip))) (.reg c_ref1_DiskMay_r5)))
@[simp] def c_ref1_DiskMay_r7 : List Ir := [⟨(some 4), none, .mov (.c (.int .i64 0))⟩]
@[simp] def c_ref1_DiskMay_r8 : List Ir := [⟨(some 19), none, .mov (.t 4)⟩,
  ⟨(some 20), none, .fadr 1 (.t 1)⟩,
  ⟨(some 21), none, .ld (.t 20)⟩,
  ⟨(some 22), none, .lenV (.t 21)⟩,
  ⟨(some 23), none, .bin .lss 3 (.t 19) (.t 22)⟩]
@[simp] def c_ref1_DiskMay_r9 : List Ir := [⟨(some 26), none, .fadr 1 (.t 1)⟩,
  ⟨(some 27), none, .ld (.t 26)⟩,
  ⟨(some 28), none, .mov (.t 4)⟩,
  ⟨(some 29), none, .iadrS 2 (.t 27) (.t 28)⟩,
  ⟨(some 30), none, .ldn 2 (.t 29)⟩,
  ⟨(some 31), none, .call f_ref1_writeMay [(.t 30)]⟩,
  ⟨(some 32), none, .un .not (.t 31)⟩]
@[simp] def c_ref1_DiskMay_r10 : List Ir := [⟨(some 2), none, .mov (.c (.bool false))⟩]
@[simp] def c_ref1_DiskMay_r11 : List Ir := [⟨(some 24), none, .mov (.t 4)⟩,
  ⟨(some 25), none, .bin .add 3 (.t 24) (.c (.int .i64 1))⟩,
  ⟨(some 4), none, .mov (.t 25)⟩]
def c_ref1_DiskMay_l12 : IC := (.seq (.seq (.reg c_ref1_DiskMay_r8) (.cond (.t 23) .skip (.exit 2))) (.seq (.block 3 (.seq (.reg c_ref1_DiskMay_r9) (.cond (.t 32) (.seq (.reg c_ref1_DiskMay_r10) .ret) .skip))) (.reg c_ref1_DiskMay_r11)))
@[simp] def c_ref1_DiskMay_r13 : List Ir := [⟨(some 33), none, .fadr 0 (.t 1)⟩,
  ⟨(some 34), none, .ld (.t 33)⟩,
  ⟨(some 35), none, .lenV (.t 34)⟩,
  ⟨(some 36), none, .bin .eql 3 (.t 35) (.c (.int .i64 394))⟩,
  ⟨(some 37), none, .mov (.t 36)⟩,
  ⟨(some 38), (some (37, true)), .fadr 1 (.t 1)⟩,
  ⟨(some 39), (some (37, true)), .ld (.t 38)⟩,
  ⟨(some 40), (some (37, true)), .lenV (.t 39)⟩,
  ⟨(some 41), (some (37, true)), .bin .leq 3 (.t 40) (.c (.int .i64 512))⟩,
  ⟨(some 42), none, .pick (.t 37) (.t 41) (.c (.bool false))⟩,
  ⟨(some 2), none, .mov (.t 42)⟩]
@[simp] def c_ref1_DiskMay : IFn := ⟨(.seq (.reg c_ref1_DiskMay_r0) (.seq (.seq (.reg c_ref1_DiskMay_r1) (.block 0 (.loop c_ref1_DiskMay_l6))) (.seq (.seq (.reg c_ref1_DiskMay_r7) (.block 2 (.loop c_ref1_DiskMay_l12))) (.seq (.reg c_ref1_DiskMay_r13) .ret)))), 43, [.tmp 2]⟩

theorem fc_ref1_DiskMay : fnAt Try.prog f_ref1_DiskMay = some c_ref1_DiskMay := by kernel_rfl
@[simp] def c_disk_New_r0 : List Ir := [⟨(some 0), none, .new [(.slice none 0 0), (.slice none 0 0)]⟩]
@[simp] def c_disk_New_r1 : List Ir := [⟨(some 1), none, .call f_strings_Repeat [(.c (.string ⟨#[0]⟩)), (.c (.int .i64 64))]⟩,
  ⟨(some 2), none, .mkrow 1 1 [(.string ⟨#[]⟩)] [(0, (1, (.t 1)))]⟩,
  ⟨(some 3), none, .call f_slices_Repeat_string_string [(.t 2), (.c (.int .i64 394))]⟩,
  ⟨(some 4), none, .build [(.slice none 0 0), (.slice none 0 0)] [(0, (1, (.t 3)))]⟩,
  ⟨none, none, .st 2 (.t 0) (.t 4)⟩]
@[simp] def c_disk_New : IFn := ⟨(.seq (.reg c_disk_New_r0) (.seq (.reg c_disk_New_r1) .ret)), 5, [.ldn 0 2]⟩

theorem fc_disk_New : fnAt Try.prog f_disk_New = some c_disk_New := by kernel_rfl
@[simp] def c_ref1_NewDisk_r0 : List Ir := [⟨(some 0), none, .new [(.slice none 0 0), (.slice none 0 0)]⟩]
@[simp] def c_ref1_NewDisk_r1 : List Ir := [⟨(some 1), none, .new [(.slice none 0 0), (.slice none 0 0)]⟩]
@[simp] def c_ref1_NewDisk_r2 : List Ir := [⟨(some 2), none, .mov (.c (.int .i64 0))⟩]
@[simp] def c_ref1_NewDisk_r3 : List Ir := [⟨(some 3), none, .mov (.t 2)⟩,
  ⟨(some 4), none, .bin .lss 3 (.t 3) (.c (.int .i64 394))⟩]
@[simp] def c_ref1_NewDisk_r4 : List Ir := [⟨(some 7), none, .fadr 0 (.t 1)⟩,
  ⟨(some 8), none, .ld (.t 7)⟩,
  ⟨(some 9), none, .call f_ref1_zeros [(.c (.int .i64 64))]⟩,
  ⟨(some 10), none, .mkrow 1 1 [(.string ⟨#[]⟩)] [(0, (1, (.t 9)))]⟩,
  ⟨(some 11), none, .app 1 16 (.t 8) (.t 10)⟩,
  ⟨(some 12), none, .fadr 0 (.t 1)⟩,
  ⟨none, none, .st 1 (.t 12) (.t 11)⟩]
@[simp] def c_ref1_NewDisk_r5 : List Ir := [⟨(some 5), none, .mov (.t 2)⟩,
  ⟨(some 6), none, .bin .add 3 (.t 5) (.c (.int .i64 1))⟩,
  ⟨(some 2), none, .mov (.t 6)⟩]
def c_ref1_NewDisk_l6 : IC := (.seq (.seq (.reg c_ref1_NewDisk_r3) (.cond (.t 4) .skip (.exit 0))) (.seq (.block 1 (.regd c_ref1_NewDisk_r4 [(1, 2)])) (.reg c_ref1_NewDisk_r5)))
@[simp] def c_ref1_NewDisk_r7 : List Ir := [⟨(some 13), none, .ldn 2 (.t 1)⟩,
  ⟨none, none, .st 2 (.t 0) (.t 13)⟩]
@[simp] def c_ref1_NewDisk : IFn := ⟨(.seq (.reg c_ref1_NewDisk_r0) (.seq (.reg c_ref1_NewDisk_r1) (.seq (.seq (.reg c_ref1_NewDisk_r2) (.block 0 (.loop c_ref1_NewDisk_l6))) (.seq (.reg c_ref1_NewDisk_r7) .ret)))), 14, [.ldn 0 2]⟩

theorem fc_ref1_NewDisk : fnAt Try.prog f_ref1_NewDisk = some c_ref1_NewDisk := by kernel_rfl
@[simp] def c_law2_awake_r0 : List Ir := [⟨(some 0), none, .mov (.c (.bool false))⟩]
@[simp] def c_law2_awake_r1 : List Ir := [⟨(some 16), none, .call f_disk_New []⟩,
  ⟨(some 1), none, .new [(.slice none 0 0), (.slice none 0 0)]⟩,
  ⟨none, none, .st 2 (.t 1) (.t 16)⟩]
@[simp] def c_law2_awake_r2 : List Ir := [⟨(some 18), none, .ldn 2 (.t 1)⟩,
  ⟨(some 2), none, .new [(.slice none 0 0), (.slice none 0 0)]⟩,
  ⟨(some 19), none, .call f_law2_sector [(.c (.int .i64 7))]⟩,
  ⟨(some 20), none, .build [(.int .i64 0), (.string ⟨#[]⟩)] [(0, (1, (.c (.int .i64 3)))), (1, (1, (.t 19)))]⟩,
  ⟨(some 21), none, .build [(.bool false), (.int .i64 0), (.string ⟨#[]⟩)] [(1, (2, (.t 20)))]⟩,
  ⟨(some 22), none, .call f_disk_Do [(.t 18), (.t 21)]⟩,
  ⟨(some 17), none, .mov (.t 22)⟩,
  ⟨(some 23), none, .ext 0 (.t 17)⟩,
  ⟨(some 24), none, .ext 1 (.t 17)⟩,
  ⟨none, none, .st 2 (.t 2) (.t 23)⟩,
  ⟨(some 3), none, .mov (.t 24)⟩]
@[simp] def c_law2_awake_r3 : List Ir := [⟨(some 26), none, .ldn 2 (.t 2)⟩,
  ⟨(some 27), none, .build [(.bool false), (.int .i64 0), (.string ⟨#[]⟩)] [(0, (1, (.c (.bool true))))]⟩,
  ⟨(some 28), none, .call f_disk_Do [(.t 26), (.t 27)]⟩,
  ⟨(some 25), none, .mov (.t 28)⟩,
  ⟨(some 29), none, .ext 0 (.t 25)⟩,
  ⟨(some 30), none, .ext 1 (.t 25)⟩,
  ⟨(some 4), none, .new [(.slice none 0 0), (.slice none 0 0)]⟩,
  ⟨none, none, .st 2 (.t 4) (.t 29)⟩,
  ⟨(some 5), none, .mov (.t 30)⟩]
@[simp] def c_law2_awake_r4 : List Ir := [⟨(some 32), none, .ldn 2 (.t 2)⟩,
  ⟨(some 33), none, .call f_disk_Crash [(.t 32), (.c (.string ⟨#[]⟩)), (.c (.int .i64 (-1))), (.c (.int .i64 0))]⟩,
  ⟨(some 31), none, .mov (.t 33)⟩,
  ⟨(some 34), none, .ext 0 (.t 31)⟩,
  ⟨(some 35), none, .ext 1 (.t 31)⟩,
  ⟨(some 6), none, .new [(.slice none 0 0), (.slice none 0 0)]⟩,
  ⟨none, none, .st 2 (.t 6) (.t 34)⟩,
  ⟨(some 7), none, .mov (.t 35)⟩]
@[simp] def c_law2_awake_r5 : List Ir := [⟨(some 37), none, .ldn 2 (.t 2)⟩,
  ⟨(some 38), none, .call f_disk_Read [(.t 37), (.c (.int .i64 3))]⟩,
  ⟨(some 36), none, .mov (.t 38)⟩,
  ⟨(some 39), none, .ext 0 (.t 36)⟩,
  ⟨(some 40), none, .ext 1 (.t 36)⟩,
  ⟨(some 8), none, .mov (.t 39)⟩,
  ⟨(some 9), none, .mov (.t 40)⟩]
@[simp] def c_law2_awake_r6 : List Ir := [⟨(some 42), none, .ldn 2 (.t 2)⟩,
  ⟨(some 43), none, .call f_disk_Crash [(.t 42), (.c (.string ⟨#[1]⟩)), (.c (.int .i64 (-1))), (.c (.int .i64 0))]⟩,
  ⟨(some 41), none, .mov (.t 43)⟩,
  ⟨(some 44), none, .ext 0 (.t 41)⟩,
  ⟨(some 45), none, .ext 1 (.t 41)⟩,
  ⟨(some 10), none, .new [(.slice none 0 0), (.slice none 0 0)]⟩,
  ⟨none, none, .st 2 (.t 10) (.t 44)⟩,
  ⟨(some 11), none, .mov (.t 45)⟩]
@[simp] def c_law2_awake_r7 : List Ir := [⟨(some 47), none, .ldn 2 (.t 1)⟩,
  ⟨(some 48), none, .call f_disk_Read [(.t 47), (.c (.int .i64 394))]⟩,
  ⟨(some 46), none, .mov (.t 48)⟩,
  ⟨(some 49), none, .ext 0 (.t 46)⟩,
  ⟨(some 50), none, .ext 1 (.t 46)⟩,
  ⟨(some 12), none, .mov (.t 49)⟩,
  ⟨(some 13), none, .mov (.t 50)⟩]
@[simp] def c_law2_awake_r8 : List Ir := [⟨(some 52), none, .ldn 2 (.t 1)⟩,
  ⟨(some 53), none, .build [(.bool false), (.int .i64 0), (.string ⟨#[]⟩)] []⟩,
  ⟨(some 54), none, .call f_disk_Do [(.t 52), (.t 53)]⟩,
  ⟨(some 51), none, .mov (.t 54)⟩,
  ⟨(some 55), none, .ext 0 (.t 51)⟩,
  ⟨(some 56), none, .ext 1 (.t 51)⟩,
  ⟨(some 14), none, .new [(.slice none 0 0), (.slice none 0 0)]⟩,
  ⟨none, none, .st 2 (.t 14) (.t 55)⟩,
  ⟨(some 15), none, .mov (.t 56)⟩]
@[simp] def c_law2_awake_r9 : List Ir := [⟨(some 57), none, .fadr 0 (.t 4)⟩,
  ⟨(some 58), none, .ld (.t 57)⟩,
  ⟨(some 59), none, .lenV (.t 58)⟩,
  ⟨(some 60), none, .bin .neq 3 (.t 59) (.c (.int .i64 394))⟩]
@[simp] def c_law2_awake_r10 : List Ir := [⟨(some 0), none, .mov (.c (.bool false))⟩]
@[simp] def c_law2_awake_r11 : List Ir := [⟨(some 61), none, .ldn 2 (.t 1)⟩,
  ⟨(some 62), none, .call f_disk_May [(.t 61)]⟩,
  ⟨(some 63), none, .mov (.t 62)⟩,
  ⟨(some 64), (some (63, true)), .mov (.t 3)⟩,
  ⟨(some 65), (some (63, true)), .call f_law0_Num [(.t 64)]⟩,
  ⟨(some 66), (some (63, true)), .bin .eql 3 (.t 65) (.c (.int .i64 0))⟩,
  ⟨(some 67), none, .pick (.t 63) (.t 66) (.c (.bool false))⟩,
  ⟨(some 68), none, .mov (.t 67)⟩,
  ⟨(some 69), (some (68, true)), .fadr 1 (.t 2)⟩,
  ⟨(some 70), (some (68, true)), .ld (.t 69)⟩,
  ⟨(some 71), (some (68, true)), .lenV (.t 70)⟩,
  ⟨(some 72), (some (68, true)), .bin .eql 3 (.t 71) (.c (.int .i64 1))⟩,
  ⟨(some 73), none, .pick (.t 68) (.t 72) (.c (.bool false))⟩,
  ⟨(some 74), none, .mov (.t 73)⟩,
  ⟨(some 75), (some (74, true)), .fadr 0 (.t 4)⟩,
  ⟨(some 76), (some (74, true)), .ld (.t 75)⟩,
  ⟨(some 77), (some (74, true)), .iadrS 1 (.t 76) (.c (.int .i64 3))⟩,
  ⟨(some 78), (some (74, true)), .ld (.t 77)⟩,
  ⟨(some 79), (some (74, true)), .call f_law2_sector [(.c (.int .i64 7))]⟩,
  ⟨(some 80), (some (74, true)), .bin .eql 9 (.t 78) (.t 79)⟩,
  ⟨(some 81), none, .pick (.t 74) (.t 80) (.c (.bool false))⟩,
  ⟨(some 82), none, .mov (.t 81)⟩,
  ⟨(some 83), (some (82, true)), .mov (.t 5)⟩,
  ⟨(some 84), (some (82, true)), .call f_law0_Num [(.t 83)]⟩,
  ⟨(some 85), (some (82, true)), .bin .eql 3 (.t 84) (.c (.int .i64 0))⟩,
  ⟨(some 86), none, .pick (.t 82) (.t 85) (.c (.bool false))⟩,
  ⟨(some 87), none, .mov (.t 86)⟩,
  ⟨(some 88), (some (87, true)), .ldn 2 (.t 6)⟩,
  ⟨(some 89), (some (87, true)), .ldn 2 (.t 1)⟩,
  ⟨(some 90), (some (87, true)), .call f_law0_SameDisk [(.t 88), (.t 89)]⟩,
  ⟨(some 91), none, .pick (.t 87) (.t 90) (.c (.bool false))⟩,
  ⟨(some 92), none, .mov (.t 91)⟩,
  ⟨(some 93), (some (92, true)), .mov (.t 7)⟩,
  ⟨(some 94), (some (92, true)), .call f_law0_Num [(.t 93)]⟩,
  ⟨(some 95), (some (92, true)), .bin .eql 3 (.t 94) (.c (.int .i64 0))⟩,
  ⟨(some 96), none, .pick (.t 92) (.t 95) (.c (.bool false))⟩,
  ⟨(some 97), none, .mov (.t 96)⟩,
  ⟨(some 98), (some (97, true)), .mov (.t 8)⟩,
  ⟨(some 99), (some (97, true)), .call f_law2_sector [(.c (.int .i64 7))]⟩,
  ⟨(some 100), (some (97, true)), .bin .eql 9 (.t 98) (.t 99)⟩,
  ⟨(some 101), none, .pick (.t 97) (.t 100) (.c (.bool false))⟩,
  ⟨(some 102), none, .mov (.t 101)⟩,
  ⟨(some 103), (some (102, true)), .mov (.t 9)⟩,
  ⟨(some 104), (some (102, true)), .call f_law0_Num [(.t 103)]⟩,
  ⟨(some 105), (some (102, true)), .bin .eql 3 (.t 104) (.c (.int .i64 0))⟩,
  ⟨(some 106), none, .pick (.t 102) (.t 105) (.c (.bool false))⟩,
  ⟨(some 107), none, .mov (.t 106)⟩,
  ⟨(some 108), (some (107, true)), .ldn 2 (.t 10)⟩,
  ⟨(some 109), (some (107, true)), .ldn 2 (.t 4)⟩,
  ⟨(some 110), (some (107, true)), .call f_law0_SameDisk [(.t 108), (.t 109)]⟩,
  ⟨(some 111), none, .pick (.t 107) (.t 110) (.c (.bool false))⟩,
  ⟨(some 112), none, .mov (.t 111)⟩,
  ⟨(some 113), (some (112, true)), .mov (.t 11)⟩,
  ⟨(some 114), (some (112, true)), .call f_law0_Num [(.t 113)]⟩,
  ⟨(some 115), (some (112, true)), .bin .eql 3 (.t 114) (.c (.int .i64 0))⟩,
  ⟨(some 116), none, .pick (.t 112) (.t 115) (.c (.bool false))⟩,
  ⟨(some 117), none, .mov (.t 116)⟩,
  ⟨(some 118), (some (117, true)), .mov (.t 13)⟩,
  ⟨(some 119), (some (117, true)), .call f_law0_Num [(.t 118)]⟩,
  ⟨(some 120), (some (117, true)), .bin .eql 3 (.t 119) (.c (.int .i64 200))⟩,
  ⟨(some 121), none, .pick (.t 117) (.t 120) (.c (.bool false))⟩,
  ⟨(some 122), none, .mov (.t 121)⟩,
  ⟨(some 123), (some (122, true)), .mov (.t 15)⟩,
  ⟨(some 124), (some (122, true)), .call f_law0_Num [(.t 123)]⟩,
  ⟨(some 125), (some (122, true)), .bin .eql 3 (.t 124) (.c (.int .i64 200))⟩,
  ⟨(some 126), none, .pick (.t 122) (.t 125) (.c (.bool false))⟩,
  ⟨(some 0), none, .mov (.t 126)⟩]
@[simp] def c_law2_awake : IFn := ⟨(.seq (.reg c_law2_awake_r0) (.seq (.reg c_law2_awake_r1) (.seq (.regd c_law2_awake_r2 [(0, 2)]) (.seq (.reg c_law2_awake_r3) (.seq (.reg c_law2_awake_r4) (.seq (.reg c_law2_awake_r5) (.seq (.reg c_law2_awake_r6) (.seq (.reg c_law2_awake_r7) (.seq (.reg c_law2_awake_r8) (.seq (.seq (.reg c_law2_awake_r9) (.cond (.t 60) (.seq (.reg c_law2_awake_r10) .ret) .skip)) (.seq (.regd c_law2_awake_r11 [(15, 18), (17, 18)]) .ret))))))))))), 127, [.tmp 0]⟩

theorem fc_law2_awake : fnAt Try.prog f_law2_awake = some c_law2_awake := by kernel_rfl
@[simp] def c_law2_sector_r0 : List Ir := [⟨(some 2), none, .mov (.c (.string ⟨#[]⟩))⟩]
@[simp] def c_law2_sector_r1 : List Ir := [⟨(some 5), none, .mks 1 1 [(.int .u8 0)] (.c (.int .i64 64)) (.c (.int .i64 64))⟩,
  ⟨(some 3), none, .mov (.t 5)⟩]
@[simp] def c_law2_sector_r2 : List Ir := [⟨(some 4), none, .mov (.c (.int .i64 0))⟩]
@[simp] def c_law2_sector_r3 : List Ir := [⟨(some 6), none, .mov (.t 4)⟩,
  ⟨(some 7), none, .bin .lss 3 (.t 6) (.c (.int .i64 64))⟩]
@[simp] def c_law2_sector_r4 : List Ir := [⟨(some 10), none, .mov (.t 3)⟩,
  ⟨(some 11), none, .mov (.t 4)⟩,
  ⟨(some 12), none, .mov (.t 0)⟩,
  ⟨(some 13), none, .ii .u8 (.t 12)⟩,
  ⟨(some 14), none, .iadrS 1 (.t 10) (.t 11)⟩,
  ⟨none, none, .st 1 (.t 14) (.t 13)⟩]
@[simp] def c_law2_sector_r5 : List Ir := [⟨(some 8), none, .mov (.t 4)⟩,
  ⟨(some 9), none, .bin .add 3 (.t 8) (.c (.int .i64 1))⟩,
  ⟨(some 4), none, .mov (.t 9)⟩]
def c_law2_sector_l6 : IC := (.seq (.seq (.reg c_law2_sector_r3) (.cond (.t 7) .skip (.exit 0))) (.seq (.block 1 (.reg c_law2_sector_r4)) (.reg c_law2_sector_r5)))
@[simp] def c_law2_sector_r7 : List Ir := [⟨(some 15), none, .mov (.t 3)⟩,
  ⟨(some 16), none, .b2s (.t 15)⟩,
  ⟨(some 2), none, .mov (.t 16)⟩]
@[simp] def c_law2_sector : IFn := ⟨(.seq (.reg c_law2_sector_r0) (.seq (.reg c_law2_sector_r1) (.seq (.seq (.reg c_law2_sector_r2) (.block 0 (.loop c_law2_sector_l6))) (.seq (.reg c_law2_sector_r7) .ret)))), 17, [.tmp 2]⟩

theorem fc_law2_sector : fnAt Try.prog f_law2_sector = some c_law2_sector := by kernel_rfl
@[simp] def c_plan_Fresh_r0 : List Ir := [⟨(some 1), none, .box 5 (.t 0)⟩,
  ⟨(some 2), none, .mov (.c (.slice none 0 0))⟩,
  ⟨(some 3), none, .new [(.int .i64 0), (.int .i64 0), (.int .i64 0), (.int .i64 0), (.slice none 0 0)]⟩,
  ⟨(some 4), none, .mov (.c (.int .i64 0))⟩]
@[simp] def c_plan_Fresh_r1 : List Ir := [⟨(some 11), none, .ldn 5 (.t 1)⟩,
  ⟨(some 12), none, .call f_plan_may [(.t 11)]⟩,
  ⟨(some 13), none, .un .not (.t 12)⟩]
@[simp] def c_plan_Fresh_r2 : List Ir := [⟨(some 14), none, .build [(.int .i64 0), (.int .i64 0), (.int .i64 0), (.int .i64 0), (.slice none 0 0)] []⟩,
  ⟨(some 2), none, .mov (.c (.slice none 0 0))⟩,
  ⟨none, none, .st 5 (.t 3) (.t 14)⟩,
  ⟨(some 4), none, .mov (.c (.int .i64 800))⟩]
@[simp] def c_plan_Fresh_r3 : List Ir := [⟨(some 5), none, .new [(.slice none 0 0)]⟩]
@[simp] def c_plan_Fresh_r4 : List Ir := [⟨(some 15), none, .fadr 4 (.t 1)⟩,
  ⟨(some 16), none, .ld (.t 15)⟩,
  ⟨(some 17), none, .lenV (.t 16)⟩,
  ⟨(some 18), none, .mov (.c (.int .i64 0))⟩]
@[simp] def c_plan_Fresh_r5 : List Ir := [⟨(some 19), none, .bin .lss 3 (.t 18) (.t 17)⟩]
@[simp] def c_plan_Fresh_r6 : List Ir := [⟨(some 20), none, .mov (.t 18)⟩,
  ⟨(some 21), none, .iadrS 1 (.t 16) (.t 18)⟩,
  ⟨(some 22), none, .ld (.t 21)⟩,
  ⟨(some 6), none, .mov (.t 20)⟩,
  ⟨(some 7), none, .mov (.t 22)⟩]
@[simp] def c_plan_Fresh_r7 : List Ir := [⟨(some 23), none, .mov (.t 6)⟩,
  ⟨(some 24), none, .mov (.t 7)⟩,
  ⟨(some 25), none, .build [(.int .i64 0), (.string ⟨#[]⟩)] [(0, (1, (.t 23))), (1, (1, (.t 24)))]⟩,
  ⟨(some 26), none, .call f_log_Parts [(.t 25), (.c (.int .i64 1)), (.c (.int .i64 0))]⟩,
  ⟨(some 27), none, .lenV (.t 26)⟩,
  ⟨(some 28), none, .mov (.c (.int .i64 0))⟩]
@[simp] def c_plan_Fresh_r8 : List Ir := [⟨(some 29), none, .bin .lss 3 (.t 28) (.t 27)⟩]
@[simp] def c_plan_Fresh_r9 : List Ir := [⟨(some 30), none, .iadrS 4 (.t 26) (.t 28)⟩,
  ⟨(some 31), none, .ldn 4 (.t 30)⟩,
  ⟨(some 9), none, .new [(.int .i64 0), (.int .i64 0), (.int .i64 0), (.string ⟨#[]⟩)]⟩,
  ⟨none, none, .st 4 (.t 9) (.t 31)⟩]
@[simp] def c_plan_Fresh_r10 : List Ir := [⟨(some 32), none, .mov (.t 6)⟩,
  ⟨(some 33), none, .fadr 2 (.t 9)⟩,
  ⟨(some 34), none, .ld (.t 33)⟩,
  ⟨(some 36), none, .ldn 4 (.t 9)⟩,
  ⟨(some 35), none, .call f_open_Home [(.t 32), (.t 34)]⟩,
  ⟨(some 37), none, .call f_plan_steps_record [(.t 5), (.t 35), (.t 36)]⟩]
@[simp] def c_plan_Fresh_r11 : List Ir := [⟨(some 38), none, .bin .add 3 (.t 28) (.c (.int .i64 1))⟩,
  ⟨(some 28), none, .mov (.t 38)⟩]
def c_plan_Fresh_l12 : IC := (.seq (.reg c_plan_Fresh_r8) (.seq (.cond (.t 29) .skip (.exit 2)) (.seq (.block 3 (.seq (.reg c_plan_Fresh_r9) (.regd c_plan_Fresh_r10 [(3, 4)]))) (.reg c_plan_Fresh_r11))))
@[simp] def c_plan_Fresh_r13 : List Ir := [⟨(some 39), none, .bin .add 3 (.t 18) (.c (.int .i64 1))⟩,
  ⟨(some 18), none, .mov (.t 39)⟩]
def c_plan_Fresh_l14 : IC := (.seq (.reg c_plan_Fresh_r5) (.seq (.cond (.t 19) .skip (.exit 0)) (.seq (.block 1 (.seq (.reg c_plan_Fresh_r6) (.seq (.reg c_plan_Fresh_r7) (.block 2 (.loop c_plan_Fresh_l12))))) (.reg c_plan_Fresh_r13))))
@[simp] def c_plan_Fresh_r15 : List Ir := [⟨(some 40), none, .call f_plan_steps_flush [(.t 5)]⟩]
@[simp] def c_plan_Fresh_r16 : List Ir := [⟨(some 41), none, .fadr 0 (.t 1)⟩,
  ⟨(some 42), none, .fadr 0 (.t 41)⟩,
  ⟨(some 43), none, .ld (.t 42)⟩,
  ⟨(some 44), none, .bin .add 3 (.t 43) (.c (.int .i64 1))⟩,
  ⟨(some 45), none, .fadr 2 (.t 1)⟩,
  ⟨(some 46), none, .ld (.t 45)⟩,
  ⟨(some 47), none, .bin .add 3 (.t 46) (.c (.int .i64 200))⟩,
  ⟨(some 48), none, .build [(.int .i64 0), (.int .i64 0)] [(0, (1, (.t 44))), (1, (1, (.t 47)))]⟩,
  ⟨(some 10), none, .new [(.int .i64 0), (.int .i64 0)]⟩,
  ⟨none, none, .st 2 (.t 10) (.t 48)⟩]
@[simp] def c_plan_Fresh_r17 : List Ir := [⟨(some 49), none, .ldn 2 (.t 10)⟩,
  ⟨(some 50), none, .call f_plan_steps_head [(.t 5), (.t 49)]⟩]
@[simp] def c_plan_Fresh_r18 : List Ir := [⟨(some 51), none, .ld (.t 5)⟩,
  ⟨(some 52), none, .ldn 2 (.t 10)⟩,
  ⟨(some 53), none, .fadr 1 (.t 10)⟩,
  ⟨(some 54), none, .ld (.t 53)⟩,
  ⟨(some 55), none, .fadr 4 (.t 1)⟩,
  ⟨(some 56), none, .ld (.t 55)⟩,
  ⟨(some 57), none, .call f_slices_Clone_string_string [(.t 56)]⟩,
  ⟨(some 58), none, .build [(.int .i64 0), (.int .i64 0), (.int .i64 0), (.int .i64 0), (.slice none 0 0)] [(0, (2, (.t 52))), (2, (1, (.t 54))), (4, (1, (.t 57)))]⟩,
  ⟨(some 2), none, .mov (.t 51)⟩,
  ⟨none, none, .st 5 (.t 3) (.t 58)⟩,
  ⟨(some 4), none, .mov (.c (.int .i64 0))⟩]
@[simp] def c_plan_Fresh : IFn := ⟨(.seq (.reg c_plan_Fresh_r0) (.seq (.seq (.reg c_plan_Fresh_r1) (.cond (.t 13) (.seq (.reg c_plan_Fresh_r2) .ret) .skip)) (.seq (.reg c_plan_Fresh_r3) (.seq (.seq (.reg c_plan_Fresh_r4) (.block 0 (.loop c_plan_Fresh_l14))) (.seq (.reg c_plan_Fresh_r15) (.seq (.reg c_plan_Fresh_r16) (.seq (.reg c_plan_Fresh_r17) (.seq (.regd c_plan_Fresh_r18 [(0, 6), (1, 6), (3, 6)]) .ret)))))))), 59, [.tmp 2, .ldn 3 5, .tmp 4]⟩

theorem fc_plan_Fresh : fnAt Try.prog f_plan_Fresh = some c_plan_Fresh := by kernel_rfl
@[simp] def c_ref1_Fresh_r0 : List Ir := [⟨(some 1), none, .box 5 (.t 0)⟩,
  ⟨(some 2), none, .mov (.c (.slice none 0 0))⟩,
  ⟨(some 3), none, .new [(.int .i64 0), (.int .i64 0), (.int .i64 0), (.int .i64 0), (.slice none 0 0)]⟩,
  ⟨(some 4), none, .mov (.c (.int .i64 0))⟩]
@[simp] def c_ref1_Fresh_r1 : List Ir := [⟨(some 11), none, .ldn 5 (.t 1)⟩,
  ⟨(some 12), none, .call f_ref1_roomy [(.t 11)]⟩,
  ⟨(some 13), none, .un .not (.t 12)⟩]
@[simp] def c_ref1_Fresh_r2 : List Ir := [⟨(some 14), none, .build [(.int .i64 0), (.int .i64 0), (.int .i64 0), (.int .i64 0), (.slice none 0 0)] []⟩,
  ⟨(some 2), none, .mov (.c (.slice none 0 0))⟩,
  ⟨none, none, .st 5 (.t 3) (.t 14)⟩,
  ⟨(some 4), none, .mov (.c (.int .i64 800))⟩]
@[simp] def c_ref1_Fresh_r3 : List Ir := [⟨(some 5), none, .mov (.c (.slice none 0 0))⟩]
@[simp] def c_ref1_Fresh_r4 : List Ir := [⟨(some 6), none, .mov (.c (.int .i64 0))⟩]
@[simp] def c_ref1_Fresh_r5 : List Ir := [⟨(some 15), none, .mov (.t 6)⟩,
  ⟨(some 16), none, .bin .lss 3 (.t 15) (.c (.int .i64 48))⟩]
@[simp] def c_ref1_Fresh_r6 : List Ir := [⟨(some 7), none, .mov (.c (.int .i64 0))⟩]
@[simp] def c_ref1_Fresh_r7 : List Ir := [⟨(some 19), none, .mov (.t 7)⟩,
  ⟨(some 20), none, .bin .lss 3 (.t 19) (.c (.int .i64 4))⟩]
@[simp] def c_ref1_Fresh_r8 : List Ir := [⟨(some 24), none, .mov (.t 6)⟩,
  ⟨(some 25), none, .mov (.t 7)⟩,
  ⟨(some 26), none, .fadr 4 (.t 1)⟩,
  ⟨(some 27), none, .ld (.t 26)⟩,
  ⟨(some 28), none, .mov (.t 6)⟩,
  ⟨(some 29), none, .iadrS 1 (.t 27) (.t 28)⟩,
  ⟨(some 30), none, .ld (.t 29)⟩,
  ⟨(some 31), none, .mov (.t 7)⟩,
  ⟨(some 32), none, .call f_ref1_part [(.t 30), (.t 31)]⟩,
  ⟨(some 33), none, .build [(.int .i64 0), (.int .i64 0), (.int .i64 0), (.string ⟨#[]⟩)] [(0, (1, (.c (.int .i64 1)))), (1, (1, (.t 24))), (2, (1, (.t 25))), (3, (1, (.t 32)))]⟩,
  ⟨(some 34), none, .call f_ref1_PutRecord [(.t 33)]⟩,
  ⟨(some 23), none, .mov (.t 34)⟩,
  ⟨(some 35), none, .ext 0 (.t 23)⟩,
  ⟨(some 36), none, .ext 1 (.t 23)⟩,
  ⟨(some 8), none, .mov (.t 35)⟩,
  ⟨(some 9), none, .mov (.t 36)⟩]
@[simp] def c_ref1_Fresh_r9 : List Ir := [⟨(some 37), none, .mov (.t 5)⟩,
  ⟨(some 38), none, .mov (.t 6)⟩,
  ⟨(some 39), none, .mov (.t 7)⟩,
  ⟨(some 40), none, .call f_ref1_home [(.t 38), (.t 39)]⟩,
  ⟨(some 41), none, .mov (.t 8)⟩,
  ⟨(some 42), none, .call f_ref1_write [(.t 40), (.t 41)]⟩,
  ⟨(some 43), none, .mkrow 3 1 [(.bool false), (.int .i64 0), (.string ⟨#[]⟩)] [(0, (3, (.t 42)))]⟩,
  ⟨(some 44), none, .app 3 32 (.t 37) (.t 43)⟩,
  ⟨(some 5), none, .mov (.t 44)⟩]
@[simp] def c_ref1_Fresh_r10 : List Ir := [⟨(some 21), none, .mov (.t 7)⟩,
  ⟨(some 22), none, .bin .add 3 (.t 21) (.c (.int .i64 1))⟩,
  ⟨(some 7), none, .mov (.t 22)⟩]
def c_ref1_Fresh_l11 : IC := (.seq (.seq (.reg c_ref1_Fresh_r7) (.cond (.t 20) .skip (.exit 2))) (.seq (.block 3 (.seq (.reg c_ref1_Fresh_r8) (.reg c_ref1_Fresh_r9))) (.reg c_ref1_Fresh_r10)))
@[simp] def c_ref1_Fresh_r12 : List Ir := [⟨(some 17), none, .mov (.t 6)⟩,
  ⟨(some 18), none, .bin .add 3 (.t 17) (.c (.int .i64 1))⟩,
  ⟨(some 6), none, .mov (.t 18)⟩]
def c_ref1_Fresh_l13 : IC := (.seq (.seq (.reg c_ref1_Fresh_r5) (.cond (.t 16) .skip (.exit 0))) (.seq (.block 1 (.seq (.reg c_ref1_Fresh_r6) (.block 2 (.loop c_ref1_Fresh_l11)))) (.reg c_ref1_Fresh_r12)))
@[simp] def c_ref1_Fresh_r14 : List Ir := [⟨(some 45), none, .fadr 0 (.t 1)⟩,
  ⟨(some 46), none, .fadr 0 (.t 45)⟩,
  ⟨(some 47), none, .ld (.t 46)⟩,
  ⟨(some 48), none, .bin .add 3 (.t 47) (.c (.int .i64 1))⟩,
  ⟨(some 49), none, .fadr 2 (.t 1)⟩,
  ⟨(some 50), none, .ld (.t 49)⟩,
  ⟨(some 51), none, .bin .add 3 (.t 50) (.c (.int .i64 200))⟩,
  ⟨(some 52), none, .build [(.int .i64 0), (.int .i64 0)] [(0, (1, (.t 48))), (1, (1, (.t 51)))]⟩,
  ⟨(some 10), none, .new [(.int .i64 0), (.int .i64 0)]⟩,
  ⟨none, none, .st 2 (.t 10) (.t 52)⟩]
@[simp] def c_ref1_Fresh_r15 : List Ir := [⟨(some 53), none, .mov (.t 5)⟩,
  ⟨(some 54), none, .build [(.bool false), (.int .i64 0), (.string ⟨#[]⟩)] [(0, (1, (.c (.bool true))))]⟩,
  ⟨(some 55), none, .ldn 2 (.t 10)⟩,
  ⟨(some 56), none, .call f_ref1_headStep [(.t 55)]⟩,
  ⟨(some 57), none, .build [(.bool false), (.int .i64 0), (.string ⟨#[]⟩)] [(0, (1, (.c (.bool true))))]⟩,
  ⟨(some 58), none, .mkrow 3 3 [(.bool false), (.int .i64 0), (.string ⟨#[]⟩), (.bool false), (.int .i64 0), (.string ⟨#[]⟩), (.bool false), (.int .i64 0), (.string ⟨#[]⟩)] [(0, (3, (.t 54))), (3, (3, (.t 56))), (6, (3, (.t 57)))]⟩,
  ⟨(some 59), none, .app 3 32 (.t 53) (.t 58)⟩,
  ⟨(some 5), none, .mov (.t 59)⟩]
@[simp] def c_ref1_Fresh_r16 : List Ir := [⟨(some 60), none, .mov (.t 5)⟩,
  ⟨(some 61), none, .ldn 2 (.t 10)⟩,
  ⟨(some 62), none, .fadr 1 (.t 10)⟩,
  ⟨(some 63), none, .ld (.t 62)⟩,
  ⟨(some 64), none, .mkrow 1 0 [] []⟩,
  ⟨(some 65), none, .fadr 4 (.t 1)⟩,
  ⟨(some 66), none, .ld (.t 65)⟩,
  ⟨(some 67), none, .app 1 16 (.t 64) (.t 66)⟩,
  ⟨(some 68), none, .build [(.int .i64 0), (.int .i64 0), (.int .i64 0), (.int .i64 0), (.slice none 0 0)] [(0, (2, (.t 61))), (2, (1, (.t 63))), (4, (1, (.t 67)))]⟩,
  ⟨(some 2), none, .mov (.t 60)⟩,
  ⟨none, none, .st 5 (.t 3) (.t 68)⟩,
  ⟨(some 4), none, .mov (.c (.int .i64 0))⟩]
@[simp] def c_ref1_Fresh : IFn := ⟨(.seq (.reg c_ref1_Fresh_r0) (.seq (.seq (.reg c_ref1_Fresh_r1) (.cond (.t 13) (.seq (.reg c_ref1_Fresh_r2) .ret) .skip)) (.seq (.reg c_ref1_Fresh_r3) (.seq (.seq (.reg c_ref1_Fresh_r4) (.block 0 (.loop c_ref1_Fresh_l13))) (.seq (.reg c_ref1_Fresh_r14) (.seq (.reg c_ref1_Fresh_r15) (.seq (.regd c_ref1_Fresh_r16 [(1, 7), (3, 7)]) .ret))))))), 69, [.tmp 2, .ldn 3 5, .tmp 4]⟩

theorem fc_ref1_Fresh : fnAt Try.prog f_ref1_Fresh = some c_ref1_Fresh := by kernel_rfl
@[simp] def c_plan_Commit_r0 : List Ir := [⟨(some 2), none, .box 5 (.t 0)⟩,
  ⟨(some 4), none, .mov (.c (.slice none 0 0))⟩,
  ⟨(some 5), none, .new [(.int .i64 0), (.int .i64 0), (.int .i64 0), (.int .i64 0), (.slice none 0 0)]⟩,
  ⟨(some 6), none, .mov (.c (.int .i64 0))⟩]
@[simp] def c_plan_Commit_r1 : List Ir := [⟨(some 14), none, .ldn 5 (.t 2)⟩,
  ⟨(some 15), none, .call f_plan_may [(.t 14)]⟩,
  ⟨(some 16), none, .un .not (.t 15)⟩,
  ⟨(some 17), none, .mov (.t 16)⟩,
  ⟨(some 18), (some (17, false)), .mov (.t 1)⟩,
  ⟨(some 19), (some (17, false)), .call f_log_Images [(.t 18)]⟩,
  ⟨(some 20), (some (17, false)), .un .not (.t 19)⟩,
  ⟨(some 21), none, .pick (.t 17) (.c (.bool true)) (.t 20)⟩]
@[simp] def c_plan_Commit_r2 : List Ir := [⟨(some 22), none, .build [(.int .i64 0), (.int .i64 0), (.int .i64 0), (.int .i64 0), (.slice none 0 0)] []⟩,
  ⟨(some 4), none, .mov (.c (.slice none 0 0))⟩,
  ⟨none, none, .st 5 (.t 5) (.t 22)⟩,
  ⟨(some 6), none, .mov (.c (.int .i64 800))⟩]
@[simp] def c_plan_Commit_r3 : List Ir := [⟨(some 23), none, .fadr 4 (.t 2)⟩,
  ⟨(some 24), none, .ld (.t 23)⟩,
  ⟨(some 25), none, .call f_slices_Clone_string_string [(.t 24)]⟩,
  ⟨(some 26), none, .fadr 4 (.t 2)⟩,
  ⟨none, none, .st 1 (.t 26) (.t 25)⟩]
@[simp] def c_plan_Commit_r4 : List Ir := [⟨(some 27), none, .mov (.t 1)⟩,
  ⟨(some 28), none, .lenV (.t 27)⟩,
  ⟨(some 29), none, .bin .eql 3 (.t 28) (.c (.int .i64 0))⟩]
@[simp] def c_plan_Commit_r5 : List Ir := [⟨(some 30), none, .ldn 5 (.t 2)⟩,
  ⟨(some 4), none, .mov (.c (.slice none 0 0))⟩,
  ⟨none, none, .st 5 (.t 5) (.t 30)⟩,
  ⟨(some 6), none, .mov (.c (.int .i64 0))⟩]
@[simp] def c_plan_Commit_r6 : List Ir := [⟨(some 7), none, .new [(.slice none 0 0)]⟩]
@[simp] def c_plan_Commit_r7 : List Ir := [⟨(some 31), none, .fadr 3 (.t 2)⟩,
  ⟨(some 32), none, .ld (.t 31)⟩,
  ⟨(some 33), none, .mov (.t 1)⟩,
  ⟨(some 34), none, .lenV (.t 33)⟩,
  ⟨(some 35), none, .call f_log_Count [(.t 34)]⟩,
  ⟨(some 36), none, .bin .add 3 (.t 32) (.t 35)⟩,
  ⟨(some 37), none, .bin .gtr 3 (.t 36) (.c (.int .i64 200))⟩]
@[simp] def c_plan_Commit_r8 : List Ir := [⟨(some 39), none, .ldn 5 (.t 2)⟩,
  ⟨(some 40), none, .call f_plan_Fresh [(.t 39)]⟩,
  ⟨(some 38), none, .mov (.t 40)⟩,
  ⟨(some 41), none, .ext 0 (.t 38)⟩,
  ⟨(some 42), none, .ext 1 (.t 38)⟩,
  ⟨(some 43), none, .ext 2 (.t 38)⟩,
  ⟨none, none, .st 1 (.t 7) (.t 41)⟩,
  ⟨none, none, .st 5 (.t 2) (.t 42)⟩]
@[simp] def c_plan_Commit_r9 : List Ir := [⟨(some 45), none, .mov (.t 1)⟩,
  ⟨(some 46), none, .fadr 2 (.t 2)⟩,
  ⟨(some 47), none, .ld (.t 46)⟩,
  ⟨(some 48), none, .call f_log_Make [(.t 45), (.t 47)]⟩,
  ⟨(some 44), none, .mov (.t 48)⟩,
  ⟨(some 49), none, .ext 0 (.t 44)⟩,
  ⟨(some 50), none, .ext 1 (.t 44)⟩,
  ⟨(some 8), none, .mov (.t 49)⟩,
  ⟨(some 9), none, .mov (.t 50)⟩]
@[simp] def c_plan_Commit_r10 : List Ir := [⟨(some 51), none, .mov (.t 8)⟩,
  ⟨(some 52), none, .lenV (.t 51)⟩,
  ⟨(some 53), none, .mov (.c (.int .i64 0))⟩]
@[simp] def c_plan_Commit_r11 : List Ir := [⟨(some 54), none, .bin .lss 3 (.t 53) (.t 52)⟩]
@[simp] def c_plan_Commit_r12 : List Ir := [⟨(some 55), none, .iadrS 4 (.t 51) (.t 53)⟩,
  ⟨(some 56), none, .ldn 4 (.t 55)⟩,
  ⟨(some 11), none, .new [(.int .i64 0), (.int .i64 0), (.int .i64 0), (.string ⟨#[]⟩)]⟩,
  ⟨none, none, .st 4 (.t 11) (.t 56)⟩]
@[simp] def c_plan_Commit_r13 : List Ir := [⟨(some 57), none, .fadr 3 (.t 2)⟩,
  ⟨(some 58), none, .ld (.t 57)⟩,
  ⟨(some 59), none, .bin .add 3 (.c (.int .i64 2)) (.t 58)⟩,
  ⟨(some 60), none, .ldn 4 (.t 11)⟩,
  ⟨(some 61), none, .call f_plan_steps_record [(.t 7), (.t 59), (.t 60)]⟩]
@[simp] def c_plan_Commit_r14 : List Ir := [⟨(some 62), none, .fadr 3 (.t 2)⟩,
  ⟨(some 63), none, .ld (.t 62)⟩,
  ⟨(some 64), none, .bin .add 3 (.t 63) (.c (.int .i64 1))⟩,
  ⟨(some 65), none, .fadr 3 (.t 2)⟩,
  ⟨none, none, .st 1 (.t 65) (.t 64)⟩]
@[simp] def c_plan_Commit_r15 : List Ir := [⟨(some 66), none, .fadr 2 (.t 2)⟩,
  ⟨(some 67), none, .ld (.t 66)⟩,
  ⟨(some 68), none, .bin .add 3 (.t 67) (.c (.int .i64 1))⟩,
  ⟨(some 69), none, .fadr 2 (.t 2)⟩,
  ⟨none, none, .st 1 (.t 69) (.t 68)⟩]
@[simp] def c_plan_Commit_r16 : List Ir := [⟨(some 70), none, .bin .add 3 (.t 53) (.c (.int .i64 1))⟩,
  ⟨(some 53), none, .mov (.t 70)⟩]
def c_plan_Commit_l17 : IC := (.seq (.reg c_plan_Commit_r11) (.seq (.cond (.t 54) .skip (.exit 0)) (.seq (.block 1 (.seq (.reg c_plan_Commit_r12) (.seq (.reg c_plan_Commit_r13) (.seq (.reg c_plan_Commit_r14) (.reg c_plan_Commit_r15))))) (.reg c_plan_Commit_r16))))
@[simp] def c_plan_Commit_r18 : List Ir := [⟨(some 71), none, .call f_plan_steps_flush [(.t 7)]⟩]
@[simp] def c_plan_Commit_r19 : List Ir := [⟨(some 72), none, .mov (.t 1)⟩,
  ⟨(some 73), none, .lenV (.t 72)⟩,
  ⟨(some 74), none, .mov (.c (.int .i64 0))⟩]
@[simp] def c_plan_Commit_r20 : List Ir := [⟨(some 75), none, .bin .lss 3 (.t 74) (.t 73)⟩]
@[simp] def c_plan_Commit_r21 : List Ir := [⟨(some 76), none, .iadrS 2 (.t 72) (.t 74)⟩,
  ⟨(some 77), none, .ldn 2 (.t 76)⟩,
  ⟨(some 13), none, .new [(.int .i64 0), (.string ⟨#[]⟩)]⟩,
  ⟨none, none, .st 2 (.t 13) (.t 77)⟩]
@[simp] def c_plan_Commit_r22 : List Ir := [⟨(some 78), none, .fadr 4 (.t 2)⟩,
  ⟨(some 79), none, .ld (.t 78)⟩,
  ⟨(some 80), none, .fadr 0 (.t 13)⟩,
  ⟨(some 81), none, .ld (.t 80)⟩,
  ⟨(some 82), none, .fadr 1 (.t 13)⟩,
  ⟨(some 83), none, .ld (.t 82)⟩,
  ⟨(some 84), none, .iadrS 1 (.t 79) (.t 81)⟩,
  ⟨none, none, .st 1 (.t 84) (.t 83)⟩]
@[simp] def c_plan_Commit_r23 : List Ir := [⟨(some 85), none, .bin .add 3 (.t 74) (.c (.int .i64 1))⟩,
  ⟨(some 74), none, .mov (.t 85)⟩]
def c_plan_Commit_l24 : IC := (.seq (.reg c_plan_Commit_r20) (.seq (.cond (.t 75) .skip (.exit 2)) (.seq (.block 3 (.seq (.reg c_plan_Commit_r21) (.reg c_plan_Commit_r22))) (.reg c_plan_Commit_r23))))
@[simp] def c_plan_Commit_r25 : List Ir := [⟨(some 86), none, .ld (.t 7)⟩,
  ⟨(some 87), none, .ldn 5 (.t 2)⟩,
  ⟨(some 4), none, .mov (.t 86)⟩,
  ⟨none, none, .st 5 (.t 5) (.t 87)⟩,
  ⟨(some 6), none, .mov (.c (.int .i64 0))⟩]
@[simp] def c_plan_Commit : IFn := ⟨(.seq (.reg c_plan_Commit_r0) (.seq (.seq (.reg c_plan_Commit_r1) (.cond (.t 21) (.seq (.reg c_plan_Commit_r2) .ret) .skip)) (.seq (.reg c_plan_Commit_r3) (.seq (.seq (.reg c_plan_Commit_r4) (.cond (.t 29) (.seq (.regd c_plan_Commit_r5 []) .ret) .skip)) (.seq (.reg c_plan_Commit_r6) (.seq (.seq (.regd c_plan_Commit_r7 [(1, 4)]) (.cond (.t 37) (.reg c_plan_Commit_r8) .skip)) (.seq (.reg c_plan_Commit_r9) (.seq (.seq (.reg c_plan_Commit_r10) (.block 0 (.loop c_plan_Commit_l17))) (.seq (.reg c_plan_Commit_r18) (.seq (.seq (.reg c_plan_Commit_r19) (.block 2 (.loop c_plan_Commit_l24))) (.seq (.regd c_plan_Commit_r25 []) .ret))))))))))), 88, [.tmp 4, .ldn 5 5, .tmp 6]⟩

theorem fc_plan_Commit : fnAt Try.prog f_plan_Commit = some c_plan_Commit := by kernel_rfl
@[simp] def c_ref1_Commit_r0 : List Ir := [⟨(some 2), none, .box 5 (.t 0)⟩,
  ⟨(some 4), none, .mov (.c (.slice none 0 0))⟩,
  ⟨(some 5), none, .new [(.int .i64 0), (.int .i64 0), (.int .i64 0), (.int .i64 0), (.slice none 0 0)]⟩,
  ⟨(some 6), none, .mov (.c (.int .i64 0))⟩]
@[simp] def c_ref1_Commit_r1 : List Ir := [⟨(some 18), none, .ldn 5 (.t 2)⟩,
  ⟨(some 19), none, .call f_ref1_roomy [(.t 18)]⟩,
  ⟨(some 20), none, .un .not (.t 19)⟩,
  ⟨(some 21), none, .mov (.t 20)⟩,
  ⟨(some 22), (some (21, false)), .mov (.t 1)⟩,
  ⟨(some 23), (some (21, false)), .call f_ref1_ImagesMay [(.t 22)]⟩,
  ⟨(some 24), (some (21, false)), .un .not (.t 23)⟩,
  ⟨(some 25), none, .pick (.t 21) (.c (.bool true)) (.t 24)⟩]
@[simp] def c_ref1_Commit_r2 : List Ir := [⟨(some 26), none, .build [(.int .i64 0), (.int .i64 0), (.int .i64 0), (.int .i64 0), (.slice none 0 0)] []⟩,
  ⟨(some 4), none, .mov (.c (.slice none 0 0))⟩,
  ⟨none, none, .st 5 (.t 5) (.t 26)⟩,
  ⟨(some 6), none, .mov (.c (.int .i64 800))⟩]
@[simp] def c_ref1_Commit_r3 : List Ir := [⟨(some 27), none, .ldn 5 (.t 2)⟩,
  ⟨(some 7), none, .new [(.int .i64 0), (.int .i64 0), (.int .i64 0), (.int .i64 0), (.slice none 0 0)]⟩,
  ⟨none, none, .st 5 (.t 7) (.t 27)⟩]
@[simp] def c_ref1_Commit_r4 : List Ir := [⟨(some 28), none, .mkrow 1 0 [] []⟩,
  ⟨(some 29), none, .fadr 4 (.t 2)⟩,
  ⟨(some 30), none, .ld (.t 29)⟩,
  ⟨(some 31), none, .app 1 16 (.t 28) (.t 30)⟩,
  ⟨(some 32), none, .fadr 4 (.t 7)⟩,
  ⟨none, none, .st 1 (.t 32) (.t 31)⟩]
@[simp] def c_ref1_Commit_r5 : List Ir := [⟨(some 33), none, .mov (.t 1)⟩,
  ⟨(some 34), none, .lenV (.t 33)⟩,
  ⟨(some 35), none, .bin .eql 3 (.t 34) (.c (.int .i64 0))⟩]
@[simp] def c_ref1_Commit_r6 : List Ir := [⟨(some 36), none, .ldn 5 (.t 7)⟩,
  ⟨(some 4), none, .mov (.c (.slice none 0 0))⟩,
  ⟨none, none, .st 5 (.t 5) (.t 36)⟩,
  ⟨(some 6), none, .mov (.c (.int .i64 0))⟩]
@[simp] def c_ref1_Commit_r7 : List Ir := [⟨(some 8), none, .mov (.c (.slice none 0 0))⟩]
@[simp] def c_ref1_Commit_r8 : List Ir := [⟨(some 37), none, .fadr 3 (.t 2)⟩,
  ⟨(some 38), none, .ld (.t 37)⟩,
  ⟨(some 39), none, .mov (.t 1)⟩,
  ⟨(some 40), none, .lenV (.t 39)⟩,
  ⟨(some 41), none, .bin .mul 3 (.c (.int .i64 4)) (.t 40)⟩,
  ⟨(some 42), none, .bin .add 3 (.t 38) (.t 41)⟩,
  ⟨(some 43), none, .bin .add 3 (.t 42) (.c (.int .i64 1))⟩,
  ⟨(some 44), none, .bin .gtr 3 (.t 43) (.c (.int .i64 200))⟩]
@[simp] def c_ref1_Commit_r9 : List Ir := [⟨(some 46), none, .ldn 5 (.t 2)⟩,
  ⟨(some 47), none, .call f_ref1_Fresh [(.t 46)]⟩,
  ⟨(some 45), none, .mov (.t 47)⟩,
  ⟨(some 48), none, .ext 0 (.t 45)⟩,
  ⟨(some 49), none, .ext 1 (.t 45)⟩,
  ⟨(some 50), none, .ext 2 (.t 45)⟩,
  ⟨(some 10), none, .new [(.int .i64 0), (.int .i64 0), (.int .i64 0), (.int .i64 0), (.slice none 0 0)]⟩,
  ⟨(some 9), none, .mov (.t 48)⟩,
  ⟨none, none, .st 5 (.t 10) (.t 49)⟩,
  ⟨(some 11), none, .mov (.t 50)⟩]
@[simp] def c_ref1_Commit_r10 : List Ir := [⟨(some 51), none, .mov (.t 9)⟩,
  ⟨(some 8), none, .mov (.t 51)⟩]
@[simp] def c_ref1_Commit_r11 : List Ir := [⟨(some 52), none, .ldn 5 (.t 10)⟩,
  ⟨none, none, .st 5 (.t 7) (.t 52)⟩]
@[simp] def c_ref1_Commit_r12 : List Ir := [⟨(some 54), none, .mov (.t 1)⟩,
  ⟨(some 55), none, .fadr 2 (.t 7)⟩,
  ⟨(some 56), none, .ld (.t 55)⟩,
  ⟨(some 57), none, .call f_ref1_Make [(.t 54), (.t 56)]⟩,
  ⟨(some 53), none, .mov (.t 57)⟩,
  ⟨(some 58), none, .ext 0 (.t 53)⟩,
  ⟨(some 59), none, .ext 1 (.t 53)⟩,
  ⟨(some 12), none, .mov (.t 58)⟩,
  ⟨(some 13), none, .mov (.t 59)⟩]
@[simp] def c_ref1_Commit_r13 : List Ir := [⟨(some 14), none, .mov (.c (.int .i64 0))⟩]
@[simp] def c_ref1_Commit_r14 : List Ir := [⟨(some 60), none, .mov (.t 14)⟩,
  ⟨(some 61), none, .mov (.t 12)⟩,
  ⟨(some 62), none, .lenV (.t 61)⟩,
  ⟨(some 63), none, .bin .lss 3 (.t 60) (.t 62)⟩]
@[simp] def c_ref1_Commit_r15 : List Ir := [⟨(some 67), none, .mov (.t 12)⟩,
  ⟨(some 68), none, .mov (.t 14)⟩,
  ⟨(some 69), none, .iadrS 4 (.t 67) (.t 68)⟩,
  ⟨(some 70), none, .ldn 4 (.t 69)⟩,
  ⟨(some 71), none, .call f_ref1_PutRecord [(.t 70)]⟩,
  ⟨(some 66), none, .mov (.t 71)⟩,
  ⟨(some 72), none, .ext 0 (.t 66)⟩,
  ⟨(some 73), none, .ext 1 (.t 66)⟩,
  ⟨(some 15), none, .mov (.t 72)⟩,
  ⟨(some 16), none, .mov (.t 73)⟩]
@[simp] def c_ref1_Commit_r16 : List Ir := [⟨(some 74), none, .mov (.t 8)⟩,
  ⟨(some 75), none, .fadr 3 (.t 7)⟩,
  ⟨(some 76), none, .ld (.t 75)⟩,
  ⟨(some 77), none, .bin .add 3 (.c (.int .i64 2)) (.t 76)⟩,
  ⟨(some 78), none, .mov (.t 14)⟩,
  ⟨(some 79), none, .bin .add 3 (.t 77) (.t 78)⟩,
  ⟨(some 80), none, .mov (.t 15)⟩,
  ⟨(some 81), none, .call f_ref1_write [(.t 79), (.t 80)]⟩,
  ⟨(some 82), none, .mkrow 3 1 [(.bool false), (.int .i64 0), (.string ⟨#[]⟩)] [(0, (3, (.t 81)))]⟩,
  ⟨(some 83), none, .app 3 32 (.t 74) (.t 82)⟩,
  ⟨(some 8), none, .mov (.t 83)⟩]
@[simp] def c_ref1_Commit_r17 : List Ir := [⟨(some 64), none, .mov (.t 14)⟩,
  ⟨(some 65), none, .bin .add 3 (.t 64) (.c (.int .i64 1))⟩,
  ⟨(some 14), none, .mov (.t 65)⟩]
def c_ref1_Commit_l18 : IC := (.seq (.seq (.reg c_ref1_Commit_r14) (.cond (.t 63) .skip (.exit 0))) (.seq (.block 1 (.seq (.reg c_ref1_Commit_r15) (.reg c_ref1_Commit_r16))) (.reg c_ref1_Commit_r17)))
@[simp] def c_ref1_Commit_r19 : List Ir := [⟨(some 84), none, .mov (.t 8)⟩,
  ⟨(some 85), none, .build [(.bool false), (.int .i64 0), (.string ⟨#[]⟩)] [(0, (1, (.c (.bool true))))]⟩,
  ⟨(some 86), none, .mkrow 3 1 [(.bool false), (.int .i64 0), (.string ⟨#[]⟩)] [(0, (3, (.t 85)))]⟩,
  ⟨(some 87), none, .app 3 32 (.t 84) (.t 86)⟩,
  ⟨(some 8), none, .mov (.t 87)⟩]
@[simp] def c_ref1_Commit_r20 : List Ir := [⟨(some 17), none, .mov (.c (.int .i64 0))⟩]
@[simp] def c_ref1_Commit_r21 : List Ir := [⟨(some 88), none, .mov (.t 17)⟩,
  ⟨(some 89), none, .mov (.t 1)⟩,
  ⟨(some 90), none, .lenV (.t 89)⟩,
  ⟨(some 91), none, .bin .lss 3 (.t 88) (.t 90)⟩]
@[simp] def c_ref1_Commit_r22 : List Ir := [⟨(some 94), none, .fadr 4 (.t 7)⟩,
  ⟨(some 95), none, .ld (.t 94)⟩,
  ⟨(some 96), none, .mov (.t 1)⟩,
  ⟨(some 97), none, .mov (.t 17)⟩,
  ⟨(some 98), none, .iadrS 2 (.t 96) (.t 97)⟩,
  ⟨(some 99), none, .fadr 0 (.t 98)⟩,
  ⟨(some 100), none, .ld (.t 99)⟩,
  ⟨(some 101), none, .mov (.t 1)⟩,
  ⟨(some 102), none, .mov (.t 17)⟩,
  ⟨(some 103), none, .iadrS 2 (.t 101) (.t 102)⟩,
  ⟨(some 104), none, .fadr 1 (.t 103)⟩,
  ⟨(some 105), none, .ld (.t 104)⟩,
  ⟨(some 106), none, .iadrS 1 (.t 95) (.t 100)⟩,
  ⟨none, none, .st 1 (.t 106) (.t 105)⟩]
@[simp] def c_ref1_Commit_r23 : List Ir := [⟨(some 92), none, .mov (.t 17)⟩,
  ⟨(some 93), none, .bin .add 3 (.t 92) (.c (.int .i64 1))⟩,
  ⟨(some 17), none, .mov (.t 93)⟩]
def c_ref1_Commit_l24 : IC := (.seq (.seq (.reg c_ref1_Commit_r21) (.cond (.t 91) .skip (.exit 2))) (.seq (.block 3 (.regd c_ref1_Commit_r22 [])) (.reg c_ref1_Commit_r23)))
@[simp] def c_ref1_Commit_r25 : List Ir := [⟨(some 107), none, .fadr 2 (.t 7)⟩,
  ⟨(some 108), none, .ld (.t 107)⟩,
  ⟨(some 109), none, .mov (.t 12)⟩,
  ⟨(some 110), none, .lenV (.t 109)⟩,
  ⟨(some 111), none, .bin .add 3 (.t 108) (.t 110)⟩,
  ⟨(some 112), none, .fadr 2 (.t 7)⟩,
  ⟨none, none, .st 1 (.t 112) (.t 111)⟩]
@[simp] def c_ref1_Commit_r26 : List Ir := [⟨(some 113), none, .fadr 3 (.t 7)⟩,
  ⟨(some 114), none, .ld (.t 113)⟩,
  ⟨(some 115), none, .mov (.t 12)⟩,
  ⟨(some 116), none, .lenV (.t 115)⟩,
  ⟨(some 117), none, .bin .add 3 (.t 114) (.t 116)⟩,
  ⟨(some 118), none, .fadr 3 (.t 7)⟩,
  ⟨none, none, .st 1 (.t 118) (.t 117)⟩]
@[simp] def c_ref1_Commit_r27 : List Ir := [⟨(some 119), none, .mov (.t 8)⟩,
  ⟨(some 120), none, .ldn 5 (.t 7)⟩,
  ⟨(some 4), none, .mov (.t 119)⟩,
  ⟨none, none, .st 5 (.t 5) (.t 120)⟩,
  ⟨(some 6), none, .mov (.c (.int .i64 0))⟩]
@[simp] def c_ref1_Commit : IFn := ⟨(.seq (.reg c_ref1_Commit_r0) (.seq (.seq (.reg c_ref1_Commit_r1) (.cond (.t 25) (.seq (.reg c_ref1_Commit_r2) .ret) .skip)) (.seq (.reg c_ref1_Commit_r3) (.seq (.reg c_ref1_Commit_r4) (.seq (.seq (.reg c_ref1_Commit_r5) (.cond (.t 35) (.seq (.regd c_ref1_Commit_r6 []) .ret) .skip)) (.seq (.reg c_ref1_Commit_r7) (.seq (.seq (.reg c_ref1_Commit_r8) (.cond (.t 44) (.seq (.reg c_ref1_Commit_r9) (.seq (.reg c_ref1_Commit_r10) (.reg c_ref1_Commit_r11))) .skip)) (.seq (.reg c_ref1_Commit_r12) (.seq (.seq (.reg c_ref1_Commit_r13) (.block 0 (.loop c_ref1_Commit_l18))) (.seq (.reg c_ref1_Commit_r19) (.seq (.seq (.reg c_ref1_Commit_r20) (.block 2 (.loop c_ref1_Commit_l24))) (.seq (.reg c_ref1_Commit_r25) (.seq (.reg c_ref1_Commit_r26) (.seq (.regd c_ref1_Commit_r27 []) .ret)))))))))))))), 121, [.tmp 4, .ldn 5 5, .tmp 6]⟩

theorem fc_ref1_Commit : fnAt Try.prog f_ref1_Commit = some c_ref1_Commit := by kernel_rfl
@[simp] def c_law0_SameSteps_r0 : List Ir := [⟨(some 4), none, .mov (.c (.bool false))⟩]
@[simp] def c_law0_SameSteps_r1 : List Ir := [⟨(some 6), none, .mov (.t 0)⟩,
  ⟨(some 7), none, .lenV (.t 6)⟩,
  ⟨(some 8), none, .mov (.t 1)⟩,
  ⟨(some 9), none, .lenV (.t 8)⟩,
  ⟨(some 10), none, .bin .neq 3 (.t 7) (.t 9)⟩]
@[simp] def c_law0_SameSteps_r2 : List Ir := [⟨(some 4), none, .mov (.c (.bool false))⟩]
@[simp] def c_law0_SameSteps_r3 : List Ir := [⟨(some 5), none, .mov (.c (.int .i64 0))⟩]
@[simp] def c_law0_SameSteps_r4 : List Ir := [⟨(some 11), none, .mov (.t 5)⟩,
  ⟨(some 12), none, .mov (.t 0)⟩,
  ⟨(some 13), none, .lenV (.t 12)⟩,
  ⟨(some 14), none, .bin .lss 3 (.t 11) (.t 13)⟩]
@[simp] def c_law0_SameSteps_r5 : List Ir := [⟨(some 17), none, .mov (.t 0)⟩,
  ⟨(some 18), none, .mov (.t 5)⟩,
  ⟨(some 19), none, .iadrS 3 (.t 17) (.t 18)⟩,
  ⟨(some 20), none, .ldn 3 (.t 19)⟩,
  ⟨(some 21), none, .mov (.t 1)⟩,
  ⟨(some 22), none, .mov (.t 5)⟩,
  ⟨(some 23), none, .iadrS 3 (.t 21) (.t 22)⟩,
  ⟨(some 24), none, .ldn 3 (.t 23)⟩,
  ⟨(some 25), none, .eqa true [.flag, .num .i64, .txt] (.t 20) (.t 24)⟩]
@[simp] def c_law0_SameSteps_r6 : List Ir := [⟨(some 4), none, .mov (.c (.bool false))⟩]
@[simp] def c_law0_SameSteps_r7 : List Ir := [⟨(some 15), none, .mov (.t 5)⟩,
  ⟨(some 16), none, .bin .add 3 (.t 15) (.c (.int .i64 1))⟩,
  ⟨(some 5), none, .mov (.t 16)⟩]
def c_law0_SameSteps_l8 : IC := (.seq (.seq (.reg c_law0_SameSteps_r4) (.cond (.t 14) .skip (.exit 0))) (.seq (.block 1 (.seq (.regd c_law0_SameSteps_r5 []) (.cond (.t 25) (.seq (.reg c_law0_SameSteps_r6) .ret) .skip))) (.reg c_law0_SameSteps_r7)))
@[simp] def c_law0_SameSteps_r9 : List Ir := [⟨(some 4), none, .mov (.c (.bool true))⟩]
@[simp] def c_law0_SameSteps : IFn := ⟨(.seq (.reg c_law0_SameSteps_r0) (.seq (.seq (.reg c_law0_SameSteps_r1) (.cond (.t 10) (.seq (.reg c_law0_SameSteps_r2) .ret) .skip)) (.seq (.seq (.reg c_law0_SameSteps_r3) (.block 0 (.loop c_law0_SameSteps_l8))) (.seq (.reg c_law0_SameSteps_r9) .ret)))), 26, [.tmp 4]⟩

theorem fc_law0_SameSteps : fnAt Try.prog f_law0_SameSteps = some c_law0_SameSteps := by kernel_rfl
@[simp] def c_law0_SamePager_r0 : List Ir := [⟨(some 2), none, .box 5 (.t 0)⟩,
  ⟨(some 3), none, .box 5 (.t 1)⟩,
  ⟨(some 4), none, .mov (.c (.bool false))⟩]
@[simp] def c_law0_SamePager_r1 : List Ir := [⟨(some 5), none, .fadr 0 (.t 2)⟩,
  ⟨(some 6), none, .ldn 2 (.t 5)⟩,
  ⟨(some 7), none, .fadr 0 (.t 3)⟩,
  ⟨(some 8), none, .ldn 2 (.t 7)⟩,
  ⟨(some 9), none, .eqa false [.num .i64, .num .i64] (.t 6) (.t 8)⟩,
  ⟨(some 10), none, .mov (.t 9)⟩,
  ⟨(some 11), (some (10, true)), .fadr 2 (.t 2)⟩,
  ⟨(some 12), (some (10, true)), .ld (.t 11)⟩,
  ⟨(some 13), (some (10, true)), .fadr 2 (.t 3)⟩,
  ⟨(some 14), (some (10, true)), .ld (.t 13)⟩,
  ⟨(some 15), (some (10, true)), .bin .eql 3 (.t 12) (.t 14)⟩,
  ⟨(some 16), none, .pick (.t 10) (.t 15) (.c (.bool false))⟩,
  ⟨(some 17), none, .mov (.t 16)⟩,
  ⟨(some 18), (some (17, true)), .fadr 3 (.t 2)⟩,
  ⟨(some 19), (some (17, true)), .ld (.t 18)⟩,
  ⟨(some 20), (some (17, true)), .fadr 3 (.t 3)⟩,
  ⟨(some 21), (some (17, true)), .ld (.t 20)⟩,
  ⟨(some 22), (some (17, true)), .bin .eql 3 (.t 19) (.t 21)⟩,
  ⟨(some 23), none, .pick (.t 17) (.t 22) (.c (.bool false))⟩,
  ⟨(some 24), none, .mov (.t 23)⟩,
  ⟨(some 25), (some (24, true)), .fadr 4 (.t 2)⟩,
  ⟨(some 26), (some (24, true)), .ld (.t 25)⟩,
  ⟨(some 27), (some (24, true)), .fadr 4 (.t 3)⟩,
  ⟨(some 28), (some (24, true)), .ld (.t 27)⟩,
  ⟨(some 29), (some (24, true)), .call f_law0_SameTexts [(.t 26), (.t 28)]⟩,
  ⟨(some 30), none, .pick (.t 24) (.t 29) (.c (.bool false))⟩,
  ⟨(some 4), none, .mov (.t 30)⟩]
@[simp] def c_law0_SamePager : IFn := ⟨(.seq (.reg c_law0_SamePager_r0) (.seq (.reg c_law0_SamePager_r1) .ret)), 31, [.tmp 4]⟩

theorem fc_law0_SamePager : fnAt Try.prog f_law0_SamePager = some c_law0_SamePager := by kernel_rfl
@[simp] def c_plan_May_r0 : List Ir := [⟨(some 1), none, .box 5 (.t 0)⟩,
  ⟨(some 2), none, .mov (.c (.bool false))⟩]
@[simp] def c_plan_May_r1 : List Ir := [⟨(some 3), none, .mov (.c (.func (.func f_plan_May_1) #[] #[]))⟩]
@[simp] def c_plan_May_r2 : List Ir := [⟨(some 4), none, .fadr 0 (.t 1)⟩,
  ⟨(some 5), none, .ldn 2 (.t 4)⟩,
  ⟨(some 6), none, .call f_head_May [(.t 5)]⟩,
  ⟨(some 7), none, .mov (.t 6)⟩,
  ⟨(some 8), (some (7, true)), .fadr 2 (.t 1)⟩,
  ⟨(some 9), (some (7, true)), .ld (.t 8)⟩,
  ⟨(some 10), (some (7, true)), .call f_record_Seq [(.t 9)]⟩,
  ⟨(some 11), none, .pick (.t 7) (.t 10) (.c (.bool false))⟩,
  ⟨(some 12), none, .mov (.t 11)⟩,
  ⟨(some 13), (some (12, true)), .fadr 3 (.t 1)⟩,
  ⟨(some 14), (some (12, true)), .ld (.t 13)⟩,
  ⟨(some 15), (some (12, true)), .bin .geq 3 (.t 14) (.c (.int .i64 0))⟩,
  ⟨(some 16), none, .pick (.t 12) (.t 15) (.c (.bool false))⟩,
  ⟨(some 17), none, .mov (.t 16)⟩,
  ⟨(some 18), (some (17, true)), .fadr 3 (.t 1)⟩,
  ⟨(some 19), (some (17, true)), .ld (.t 18)⟩,
  ⟨(some 20), (some (17, true)), .bin .leq 3 (.t 19) (.c (.int .i64 200))⟩,
  ⟨(some 21), none, .pick (.t 17) (.t 20) (.c (.bool false))⟩,
  ⟨(some 22), none, .mov (.t 21)⟩,
  ⟨(some 23), (some (22, true)), .fadr 4 (.t 1)⟩,
  ⟨(some 24), (some (22, true)), .ld (.t 23)⟩,
  ⟨(some 25), (some (22, true)), .lenV (.t 24)⟩,
  ⟨(some 26), (some (22, true)), .bin .eql 3 (.t 25) (.c (.int .i64 48))⟩,
  ⟨(some 27), none, .pick (.t 22) (.t 26) (.c (.bool false))⟩,
  ⟨(some 28), none, .mov (.t 27)⟩,
  ⟨(some 29), (some (28, true)), .fadr 4 (.t 1)⟩,
  ⟨(some 30), (some (28, true)), .ld (.t 29)⟩,
  ⟨(some 31), (some (28, true)), .mov (.t 3)⟩,
  ⟨(some 32), (some (28, true)), .call f_slices_ContainsFunc_string_string [(.t 30), (.t 31)]⟩,
  ⟨(some 33), (some (28, true)), .un .not (.t 32)⟩,
  ⟨(some 34), none, .pick (.t 28) (.t 33) (.c (.bool false))⟩,
  ⟨(some 2), none, .mov (.t 34)⟩]
@[simp] def c_plan_May : IFn := ⟨(.seq (.reg c_plan_May_r0) (.seq (.reg c_plan_May_r1) (.seq (.reg c_plan_May_r2) .ret))), 35, [.tmp 2]⟩

theorem fc_plan_May : fnAt Try.prog f_plan_May = some c_plan_May := by kernel_rfl
@[simp] def c_ref1_PagerMay_r0 : List Ir := [⟨(some 1), none, .box 5 (.t 0)⟩,
  ⟨(some 2), none, .mov (.c (.bool false))⟩]
@[simp] def c_ref1_PagerMay_r1 : List Ir := [⟨(some 3), none, .mov (.c (.int .i64 0))⟩]
@[simp] def c_ref1_PagerMay_r2 : List Ir := [⟨(some 4), none, .mov (.t 3)⟩,
  ⟨(some 5), none, .fadr 4 (.t 1)⟩,
  ⟨(some 6), none, .ld (.t 5)⟩,
  ⟨(some 7), none, .lenV (.t 6)⟩,
  ⟨(some 8), none, .bin .lss 3 (.t 4) (.t 7)⟩]
@[simp] def c_ref1_PagerMay_r3 : List Ir := [⟨(some 11), none, .fadr 4 (.t 1)⟩,
  ⟨(some 12), none, .ld (.t 11)⟩,
  ⟨(some 13), none, .mov (.t 3)⟩,
  ⟨(some 14), none, .iadrS 1 (.t 12) (.t 13)⟩,
  ⟨(some 15), none, .ld (.t 14)⟩,
  ⟨(some 16), none, .call f_ref1_textMay [(.t 15)]⟩,
  ⟨(some 17), none, .un .not (.t 16)⟩]
@[simp] def c_ref1_PagerMay_r4 : List Ir := [⟨(some 2), none, .mov (.c (.bool false))⟩]
@[simp] def c_ref1_PagerMay_r5 : List Ir := [⟨(some 9), none, .mov (.t 3)⟩,
  ⟨(some 10), none, .bin .add 3 (.t 9) (.c (.int .i64 1))⟩,
  ⟨(some 3), none, .mov (.t 10)⟩]
def c_ref1_PagerMay_l6 : IC := (.seq (.seq (.reg c_ref1_PagerMay_r2) (.cond (.t 8) .skip (.exit 0))) (.seq (.block 1 (.seq (.reg c_ref1_PagerMay_r3) (.cond (.t 17) (.seq (.reg c_ref1_PagerMay_r4) .ret) .skip))) (.reg c_ref1_PagerMay_r5)))
@[simp] def c_ref1_PagerMay_r7 : List Ir := [⟨(some 18), none, .fadr 0 (.t 1)⟩,
  ⟨(some 19), none, .ldn 2 (.t 18)⟩,
  ⟨(some 20), none, .call f_ref1_HeadMay [(.t 19)]⟩,
  ⟨(some 21), none, .mov (.t 20)⟩,
  ⟨(some 22), (some (21, true)), .fadr 2 (.t 1)⟩,
  ⟨(some 23), (some (21, true)), .ld (.t 22)⟩,
  ⟨(some 24), (some (21, true)), .call f_ref1_seqMay [(.t 23)]⟩,
  ⟨(some 25), none, .pick (.t 21) (.t 24) (.c (.bool false))⟩,
  ⟨(some 26), none, .mov (.t 25)⟩,
  ⟨(some 27), (some (26, true)), .fadr 3 (.t 1)⟩,
  ⟨(some 28), (some (26, true)), .ld (.t 27)⟩,
  ⟨(some 29), (some (26, true)), .bin .geq 3 (.t 28) (.c (.int .i64 0))⟩,
  ⟨(some 30), none, .pick (.t 26) (.t 29) (.c (.bool false))⟩,
  ⟨(some 31), none, .mov (.t 30)⟩,
  ⟨(some 32), (some (31, true)), .fadr 3 (.t 1)⟩,
  ⟨(some 33), (some (31, true)), .ld (.t 32)⟩,
  ⟨(some 34), (some (31, true)), .bin .leq 3 (.t 33) (.c (.int .i64 200))⟩,
  ⟨(some 35), none, .pick (.t 31) (.t 34) (.c (.bool false))⟩,
  ⟨(some 36), none, .mov (.t 35)⟩,
  ⟨(some 37), (some (36, true)), .fadr 4 (.t 1)⟩,
  ⟨(some 38), (some (36, true)), .ld (.t 37)⟩,
  ⟨(some 39), (some (36, true)), .lenV (.t 38)⟩,
  ⟨(some 40), (some (36, true)), .bin .eql 3 (.t 39) (.c (.int .i64 48))⟩,
  ⟨(some 41), none, .pick (.t 36) (.t 40) (.c (.bool false))⟩,
  ⟨(some 2), none, .mov (.t 41)⟩]
@[simp] def c_ref1_PagerMay : IFn := ⟨(.seq (.reg c_ref1_PagerMay_r0) (.seq (.seq (.reg c_ref1_PagerMay_r1) (.block 0 (.loop c_ref1_PagerMay_l6))) (.seq (.reg c_ref1_PagerMay_r7) .ret))), 42, [.tmp 2]⟩

theorem fc_ref1_PagerMay : fnAt Try.prog f_ref1_PagerMay = some c_ref1_PagerMay := by kernel_rfl
@[simp] def c_plan_Format_r0 : List Ir := [⟨(some 0), none, .mov (.c (.slice none 0 0))⟩]
@[simp] def c_plan_Format_r1 : List Ir := [⟨(some 1), none, .new [(.slice none 0 0)]⟩]
@[simp] def c_plan_Format_r2 : List Ir := [⟨(some 2), none, .call f_open_Blank []⟩,
  ⟨(some 3), none, .fld 0 2 true (.t 2)⟩,
  ⟨(some 4), none, .call f_plan_steps_head [(.t 1), (.t 3)]⟩]
@[simp] def c_plan_Format_r3 : List Ir := [⟨(some 5), none, .ld (.t 1)⟩,
  ⟨(some 0), none, .mov (.t 5)⟩]
@[simp] def c_plan_Format : IFn := ⟨(.seq (.reg c_plan_Format_r0) (.seq (.reg c_plan_Format_r1) (.seq (.reg c_plan_Format_r2) (.seq (.reg c_plan_Format_r3) .ret)))), 6, [.tmp 0]⟩

theorem fc_plan_Format : fnAt Try.prog f_plan_Format = some c_plan_Format := by kernel_rfl
@[simp] def c_ref1_Format_r0 : List Ir := [⟨(some 0), none, .mov (.c (.slice none 0 0))⟩]
@[simp] def c_ref1_Format_r1 : List Ir := [⟨(some 1), none, .build [(.int .i64 0), (.int .i64 0)] [(1, (1, (.c (.int .i64 1))))]⟩,
  ⟨(some 2), none, .call f_ref1_headStep [(.t 1)]⟩,
  ⟨(some 3), none, .build [(.bool false), (.int .i64 0), (.string ⟨#[]⟩)] [(0, (1, (.c (.bool true))))]⟩,
  ⟨(some 4), none, .mkrow 3 2 [(.bool false), (.int .i64 0), (.string ⟨#[]⟩), (.bool false), (.int .i64 0), (.string ⟨#[]⟩)] [(0, (3, (.t 2))), (3, (3, (.t 3)))]⟩,
  ⟨(some 0), none, .mov (.t 4)⟩]
@[simp] def c_ref1_Format : IFn := ⟨(.seq (.reg c_ref1_Format_r0) (.seq (.reg c_ref1_Format_r1) .ret)), 5, [.tmp 0]⟩

theorem fc_ref1_Format : fnAt Try.prog f_ref1_Format = some c_ref1_Format := by kernel_rfl
@[simp] def c_law8_awake_r0 : List Ir := [⟨(some 0), none, .mov (.c (.bool false))⟩]
@[simp] def c_law8_awake_r1 : List Ir := [⟨(some 15), none, .call f_plan_Format []⟩,
  ⟨(some 1), none, .mov (.t 15)⟩]
@[simp] def c_law8_awake_r2 : List Ir := [⟨(some 16), none, .call f_ref1_Blank []⟩,
  ⟨(some 2), none, .new [(.int .i64 0), (.int .i64 0), (.int .i64 0), (.int .i64 0), (.slice none 0 0)]⟩,
  ⟨none, none, .st 5 (.t 2) (.t 16)⟩]
@[simp] def c_law8_awake_r3 : List Ir := [⟨(some 18), none, .ldn 5 (.t 2)⟩,
  ⟨(some 19), none, .call f_plan_Fresh [(.t 18)]⟩,
  ⟨(some 17), none, .mov (.t 19)⟩,
  ⟨(some 20), none, .ext 0 (.t 17)⟩,
  ⟨(some 21), none, .ext 1 (.t 17)⟩,
  ⟨(some 22), none, .ext 2 (.t 17)⟩,
  ⟨(some 4), none, .new [(.int .i64 0), (.int .i64 0), (.int .i64 0), (.int .i64 0), (.slice none 0 0)]⟩,
  ⟨(some 3), none, .mov (.t 20)⟩,
  ⟨none, none, .st 5 (.t 4) (.t 21)⟩,
  ⟨(some 5), none, .mov (.t 22)⟩]
@[simp] def c_law8_awake_r4 : List Ir := [⟨(some 24), none, .ldn 5 (.t 2)⟩,
  ⟨(some 25), none, .build [(.int .i64 0), (.string ⟨#[]⟩)] [(0, (1, (.c (.int .i64 3)))), (1, (1, (.c (.string ⟨#[97, 98, 99]⟩))))]⟩,
  ⟨(some 26), none, .mkrow 2 1 [(.int .i64 0), (.string ⟨#[]⟩)] [(0, (2, (.t 25)))]⟩,
  ⟨(some 27), none, .call f_plan_Commit [(.t 24), (.t 26)]⟩,
  ⟨(some 23), none, .mov (.t 27)⟩,
  ⟨(some 28), none, .ext 0 (.t 23)⟩,
  ⟨(some 29), none, .ext 1 (.t 23)⟩,
  ⟨(some 30), none, .ext 2 (.t 23)⟩,
  ⟨(some 7), none, .new [(.int .i64 0), (.int .i64 0), (.int .i64 0), (.int .i64 0), (.slice none 0 0)]⟩,
  ⟨(some 6), none, .mov (.t 28)⟩,
  ⟨none, none, .st 5 (.t 7) (.t 29)⟩,
  ⟨(some 8), none, .mov (.t 30)⟩]
@[simp] def c_law8_awake_r5 : List Ir := [⟨(some 32), none, .build [(.int .i64 0), (.int .i64 0), (.int .i64 0), (.int .i64 0), (.slice none 0 0)] []⟩,
  ⟨(some 33), none, .call f_plan_Fresh [(.t 32)]⟩,
  ⟨(some 31), none, .mov (.t 33)⟩,
  ⟨(some 34), none, .ext 0 (.t 31)⟩,
  ⟨(some 35), none, .ext 1 (.t 31)⟩,
  ⟨(some 36), none, .ext 2 (.t 31)⟩,
  ⟨(some 10), none, .new [(.int .i64 0), (.int .i64 0), (.int .i64 0), (.int .i64 0), (.slice none 0 0)]⟩,
  ⟨(some 9), none, .mov (.t 34)⟩,
  ⟨none, none, .st 5 (.t 10) (.t 35)⟩,
  ⟨(some 11), none, .mov (.t 36)⟩]
@[simp] def c_law8_awake_r6 : List Ir := [⟨(some 38), none, .ldn 5 (.t 2)⟩,
  ⟨(some 39), none, .build [(.int .i64 0), (.string ⟨#[]⟩)] [(0, (1, (.c (.int .i64 (-1)))))]⟩,
  ⟨(some 40), none, .mkrow 2 1 [(.int .i64 0), (.string ⟨#[]⟩)] [(0, (2, (.t 39)))]⟩,
  ⟨(some 41), none, .call f_plan_Commit [(.t 38), (.t 40)]⟩,
  ⟨(some 37), none, .mov (.t 41)⟩,
  ⟨(some 42), none, .ext 0 (.t 37)⟩,
  ⟨(some 43), none, .ext 1 (.t 37)⟩,
  ⟨(some 44), none, .ext 2 (.t 37)⟩,
  ⟨(some 13), none, .new [(.int .i64 0), (.int .i64 0), (.int .i64 0), (.int .i64 0), (.slice none 0 0)]⟩,
  ⟨(some 12), none, .mov (.t 42)⟩,
  ⟨none, none, .st 5 (.t 13) (.t 43)⟩,
  ⟨(some 14), none, .mov (.t 44)⟩]
@[simp] def c_law8_awake_r7 : List Ir := [⟨(some 45), none, .mov (.t 1)⟩,
  ⟨(some 46), none, .lenV (.t 45)⟩,
  ⟨(some 47), none, .bin .eql 3 (.t 46) (.c (.int .i64 2))⟩,
  ⟨(some 48), none, .mov (.t 47)⟩,
  ⟨(some 49), (some (48, true)), .mov (.t 3)⟩,
  ⟨(some 50), (some (48, true)), .lenV (.t 49)⟩,
  ⟨(some 51), (some (48, true)), .bin .eql 3 (.t 50) (.c (.int .i64 195))⟩,
  ⟨(some 52), none, .pick (.t 48) (.t 51) (.c (.bool false))⟩,
  ⟨(some 53), none, .mov (.t 52)⟩,
  ⟨(some 54), (some (53, true)), .fadr 0 (.t 4)⟩,
  ⟨(some 55), (some (53, true)), .ldn 2 (.t 54)⟩,
  ⟨(some 56), (some (53, true)), .build [(.int .i64 0), (.int .i64 0)] [(0, (1, (.c (.int .i64 1)))), (1, (1, (.c (.int .i64 201))))]⟩,
  ⟨(some 57), (some (53, true)), .eqa false [.num .i64, .num .i64] (.t 55) (.t 56)⟩,
  ⟨(some 58), none, .pick (.t 53) (.t 57) (.c (.bool false))⟩,
  ⟨(some 59), none, .mov (.t 58)⟩,
  ⟨(some 60), (some (59, true)), .mov (.t 5)⟩,
  ⟨(some 61), (some (59, true)), .call f_law0_Num [(.t 60)]⟩,
  ⟨(some 62), (some (59, true)), .bin .eql 3 (.t 61) (.c (.int .i64 0))⟩,
  ⟨(some 63), none, .pick (.t 59) (.t 62) (.c (.bool false))⟩,
  ⟨(some 64), none, .mov (.t 63)⟩,
  ⟨(some 65), (some (64, true)), .mov (.t 6)⟩,
  ⟨(some 66), (some (64, true)), .lenV (.t 65)⟩,
  ⟨(some 67), (some (64, true)), .bin .eql 3 (.t 66) (.c (.int .i64 6))⟩,
  ⟨(some 68), none, .pick (.t 64) (.t 67) (.c (.bool false))⟩,
  ⟨(some 69), none, .mov (.t 68)⟩,
  ⟨(some 70), (some (69, true)), .fadr 2 (.t 7)⟩,
  ⟨(some 71), (some (69, true)), .ld (.t 70)⟩,
  ⟨(some 72), (some (69, true)), .bin .eql 3 (.t 71) (.c (.int .i64 6))⟩,
  ⟨(some 73), none, .pick (.t 69) (.t 72) (.c (.bool false))⟩,
  ⟨(some 74), none, .mov (.t 73)⟩,
  ⟨(some 75), (some (74, true)), .fadr 3 (.t 7)⟩,
  ⟨(some 76), (some (74, true)), .ld (.t 75)⟩,
  ⟨(some 77), (some (74, true)), .bin .eql 3 (.t 76) (.c (.int .i64 5))⟩,
  ⟨(some 78), none, .pick (.t 74) (.t 77) (.c (.bool false))⟩,
  ⟨(some 79), none, .mov (.t 78)⟩,
  ⟨(some 80), (some (79, true)), .mov (.t 8)⟩,
  ⟨(some 81), (some (79, true)), .call f_law0_Num [(.t 80)]⟩,
  ⟨(some 82), (some (79, true)), .bin .eql 3 (.t 81) (.c (.int .i64 0))⟩,
  ⟨(some 83), none, .pick (.t 79) (.t 82) (.c (.bool false))⟩,
  ⟨(some 84), none, .mov (.t 83)⟩,
  ⟨(some 85), (some (84, true)), .mov (.t 11)⟩,
  ⟨(some 86), (some (84, true)), .call f_law0_Num [(.t 85)]⟩,
  ⟨(some 87), (some (84, true)), .bin .eql 3 (.t 86) (.c (.int .i64 800))⟩,
  ⟨(some 88), none, .pick (.t 84) (.t 87) (.c (.bool false))⟩,
  ⟨(some 89), none, .mov (.t 88)⟩,
  ⟨(some 90), (some (89, true)), .mov (.t 14)⟩,
  ⟨(some 91), (some (89, true)), .call f_law0_Num [(.t 90)]⟩,
  ⟨(some 92), (some (89, true)), .bin .eql 3 (.t 91) (.c (.int .i64 800))⟩,
  ⟨(some 93), none, .pick (.t 89) (.t 92) (.c (.bool false))⟩,
  ⟨(some 94), none, .mov (.t 93)⟩,
  ⟨(some 95), (some (94, true)), .ldn 5 (.t 2)⟩,
  ⟨(some 96), (some (94, true)), .call f_plan_May [(.t 95)]⟩,
  ⟨(some 97), none, .pick (.t 94) (.t 96) (.c (.bool false))⟩,
  ⟨(some 0), none, .mov (.t 97)⟩]
@[simp] def c_law8_awake : IFn := ⟨(.seq (.reg c_law8_awake_r0) (.seq (.reg c_law8_awake_r1) (.seq (.reg c_law8_awake_r2) (.seq (.reg c_law8_awake_r3) (.seq (.reg c_law8_awake_r4) (.seq (.reg c_law8_awake_r5) (.seq (.reg c_law8_awake_r6) (.seq (.reg c_law8_awake_r7) .ret)))))))), 98, [.tmp 0]⟩

theorem fc_law8_awake : fnAt Try.prog f_law8_awake = some c_law8_awake := by kernel_rfl
@[simp] def c_ref1_ImagesMay_r0 : List Ir := [⟨(some 2), none, .mov (.c (.bool false))⟩]
@[simp] def c_ref1_ImagesMay_r1 : List Ir := [⟨(some 3), none, .mov (.c (.int .i64 0))⟩]
@[simp] def c_ref1_ImagesMay_r2 : List Ir := [⟨(some 4), none, .mov (.t 3)⟩,
  ⟨(some 5), none, .mov (.t 0)⟩,
  ⟨(some 6), none, .lenV (.t 5)⟩,
  ⟨(some 7), none, .bin .lss 3 (.t 4) (.t 6)⟩]
@[simp] def c_ref1_ImagesMay_r3 : List Ir := [⟨(some 10), none, .mov (.t 0)⟩,
  ⟨(some 11), none, .mov (.t 3)⟩,
  ⟨(some 12), none, .iadrS 2 (.t 10) (.t 11)⟩,
  ⟨(some 13), none, .fadr 0 (.t 12)⟩,
  ⟨(some 14), none, .ld (.t 13)⟩,
  ⟨(some 15), none, .bin .lss 3 (.t 14) (.c (.int .i64 0))⟩,
  ⟨(some 16), none, .mov (.t 15)⟩,
  ⟨(some 17), (some (16, false)), .mov (.t 0)⟩,
  ⟨(some 18), (some (16, false)), .mov (.t 3)⟩,
  ⟨(some 19), (some (16, false)), .iadrS 2 (.t 17) (.t 18)⟩,
  ⟨(some 20), (some (16, false)), .fadr 0 (.t 19)⟩,
  ⟨(some 21), (some (16, false)), .ld (.t 20)⟩,
  ⟨(some 22), (some (16, false)), .bin .geq 3 (.t 21) (.c (.int .i64 48))⟩,
  ⟨(some 23), none, .pick (.t 16) (.c (.bool true)) (.t 22)⟩,
  ⟨(some 24), none, .mov (.t 23)⟩,
  ⟨(some 25), (some (24, false)), .mov (.t 0)⟩,
  ⟨(some 26), (some (24, false)), .mov (.t 3)⟩,
  ⟨(some 27), (some (24, false)), .iadrS 2 (.t 25) (.t 26)⟩,
  ⟨(some 28), (some (24, false)), .fadr 1 (.t 27)⟩,
  ⟨(some 29), (some (24, false)), .ld (.t 28)⟩,
  ⟨(some 30), (some (24, false)), .call f_ref1_textMay [(.t 29)]⟩,
  ⟨(some 31), (some (24, false)), .un .not (.t 30)⟩,
  ⟨(some 32), none, .pick (.t 24) (.c (.bool true)) (.t 31)⟩,
  ⟨(some 33), none, .mov (.t 32)⟩,
  ⟨(some 34), (some (33, false)), .mov (.t 3)⟩,
  ⟨(some 35), (some (33, false)), .bin .gtr 3 (.t 34) (.c (.int .i64 0))⟩,
  ⟨(some 36), (some (33, false)), .mov (.t 35)⟩,
  ⟨(some 37), (some (36, true)), .mov (.t 0)⟩,
  ⟨(some 38), (some (36, true)), .mov (.t 3)⟩,
  ⟨(some 39), (some (36, true)), .iadrS 2 (.t 37) (.t 38)⟩,
  ⟨(some 40), (some (36, true)), .fadr 0 (.t 39)⟩,
  ⟨(some 41), (some (36, true)), .ld (.t 40)⟩,
  ⟨(some 42), (some (36, true)), .mov (.t 0)⟩,
  ⟨(some 43), (some (36, true)), .mov (.t 3)⟩,
  ⟨(some 44), (some (36, true)), .bin .sub 3 (.t 43) (.c (.int .i64 1))⟩,
  ⟨(some 45), (some (36, true)), .iadrS 2 (.t 42) (.t 44)⟩,
  ⟨(some 46), (some (36, true)), .fadr 0 (.t 45)⟩,
  ⟨(some 47), (some (36, true)), .ld (.t 46)⟩,
  ⟨(some 48), (some (36, true)), .bin .leq 3 (.t 41) (.t 47)⟩,
  ⟨(some 49), (some (33, false)), .pick (.t 36) (.t 48) (.c (.bool false))⟩,
  ⟨(some 50), none, .pick (.t 33) (.c (.bool true)) (.t 49)⟩]
@[simp] def c_ref1_ImagesMay_r4 : List Ir := [⟨(some 2), none, .mov (.c (.bool false))⟩]
@[simp] def c_ref1_ImagesMay_r5 : List Ir := [⟨(some 8), none, .mov (.t 3)⟩,
  ⟨(some 9), none, .bin .add 3 (.t 8) (.c (.int .i64 1))⟩,
  ⟨(some 3), none, .mov (.t 9)⟩]
def c_ref1_ImagesMay_l6 : IC := (.seq (.seq (.reg c_ref1_ImagesMay_r2) (.cond (.t 7) .skip (.exit 0))) (.seq (.block 1 (.seq (.regd c_ref1_ImagesMay_r3 []) (.cond (.t 50) (.seq (.reg c_ref1_ImagesMay_r4) .ret) .skip))) (.reg c_ref1_ImagesMay_r5)))
@[simp] def c_ref1_ImagesMay_r7 : List Ir := [⟨(some 51), none, .mov (.t 0)⟩,
  ⟨(some 52), none, .lenV (.t 51)⟩,
  ⟨(some 53), none, .bin .leq 3 (.t 52) (.c (.int .i64 48))⟩,
  ⟨(some 2), none, .mov (.t 53)⟩]
@[simp] def c_ref1_ImagesMay : IFn := ⟨(.seq (.reg c_ref1_ImagesMay_r0) (.seq (.seq (.reg c_ref1_ImagesMay_r1) (.block 0 (.loop c_ref1_ImagesMay_l6))) (.seq (.reg c_ref1_ImagesMay_r7) .ret))), 54, [.tmp 2]⟩

theorem fc_ref1_ImagesMay : fnAt Try.prog f_ref1_ImagesMay = some c_ref1_ImagesMay := by kernel_rfl
@[simp] def c_law8_done_r0 : List Ir := [⟨(some 2), none, .box 2 (.t 0)⟩,
  ⟨(some 4), none, .new [(.slice none 0 0), (.slice none 0 0)]⟩,
  ⟨(some 5), none, .mov (.c (.bool false))⟩]
@[simp] def c_law8_done_r1 : List Ir := [⟨(some 6), none, .mov (.c (.int .i64 0))⟩]
@[simp] def c_law8_done_r2 : List Ir := [⟨(some 9), none, .mov (.t 6)⟩,
  ⟨(some 10), none, .mov (.t 1)⟩,
  ⟨(some 11), none, .lenV (.t 10)⟩,
  ⟨(some 12), none, .bin .lss 3 (.t 9) (.t 11)⟩]
@[simp] def c_law8_done_r3 : List Ir := [⟨(some 16), none, .ldn 2 (.t 2)⟩,
  ⟨(some 17), none, .mov (.t 1)⟩,
  ⟨(some 18), none, .mov (.t 6)⟩,
  ⟨(some 19), none, .iadrS 3 (.t 17) (.t 18)⟩,
  ⟨(some 20), none, .ldn 3 (.t 19)⟩,
  ⟨(some 7), none, .new [(.slice none 0 0), (.slice none 0 0)]⟩,
  ⟨(some 21), none, .call f_ref1_Do [(.t 16), (.t 20)]⟩,
  ⟨(some 15), none, .mov (.t 21)⟩,
  ⟨(some 22), none, .ext 0 (.t 15)⟩,
  ⟨(some 23), none, .ext 1 (.t 15)⟩,
  ⟨none, none, .st 2 (.t 7) (.t 22)⟩,
  ⟨(some 8), none, .mov (.t 23)⟩]
@[simp] def c_law8_done_r4 : List Ir := [⟨(some 24), none, .mov (.t 8)⟩,
  ⟨(some 25), none, .bin .neq 3 (.t 24) (.c (.int .i64 0))⟩]
@[simp] def c_law8_done_r5 : List Ir := [⟨(some 26), none, .ldn 2 (.t 2)⟩,
  ⟨none, none, .st 2 (.t 4) (.t 26)⟩,
  ⟨(some 5), none, .mov (.c (.bool false))⟩]
@[simp] def c_law8_done_r6 : List Ir := [⟨(some 27), none, .ldn 2 (.t 7)⟩,
  ⟨none, none, .st 2 (.t 2) (.t 27)⟩]
@[simp] def c_law8_done_r7 : List Ir := [⟨(some 13), none, .mov (.t 6)⟩,
  ⟨(some 14), none, .bin .add 3 (.t 13) (.c (.int .i64 1))⟩,
  ⟨(some 6), none, .mov (.t 14)⟩]
def c_law8_done_l8 : IC := (.seq (.seq (.reg c_law8_done_r2) (.cond (.t 12) .skip (.exit 0))) (.seq (.block 1 (.seq (.regd c_law8_done_r3 []) (.seq (.seq (.reg c_law8_done_r4) (.cond (.t 25) (.seq (.reg c_law8_done_r5) .ret) .skip)) (.reg c_law8_done_r6)))) (.reg c_law8_done_r7)))
@[simp] def c_law8_done_r9 : List Ir := [⟨(some 28), none, .ldn 2 (.t 2)⟩,
  ⟨none, none, .st 2 (.t 4) (.t 28)⟩,
  ⟨(some 5), none, .mov (.c (.bool true))⟩]
@[simp] def c_law8_done : IFn := ⟨(.seq (.reg c_law8_done_r0) (.seq (.seq (.reg c_law8_done_r1) (.block 0 (.loop c_law8_done_l8))) (.seq (.reg c_law8_done_r9) .ret))), 29, [.ldn 4 2, .tmp 5]⟩

theorem fc_law8_done : fnAt Try.prog f_law8_done = some c_law8_done := by kernel_rfl
@[simp] def c_ref1_Open_r0 : List Ir := [⟨(some 1), none, .box 2 (.t 0)⟩,
  ⟨(some 2), none, .new [(.int .i64 0), (.int .i64 0), (.int .i64 0), (.int .i64 0), (.slice none 0 0)]⟩,
  ⟨(some 3), none, .mov (.c (.int .i64 0))⟩]
@[simp] def c_ref1_Open_r1 : List Ir := [⟨(some 18), none, .ldn 2 (.t 1)⟩,
  ⟨(some 19), none, .call f_ref1_DiskMay [(.t 18)]⟩,
  ⟨(some 20), none, .un .not (.t 19)⟩]
@[simp] def c_ref1_Open_r2 : List Ir := [⟨(some 21), none, .build [(.int .i64 0), (.int .i64 0), (.int .i64 0), (.int .i64 0), (.slice none 0 0)] []⟩,
  ⟨none, none, .st 5 (.t 2) (.t 21)⟩,
  ⟨(some 3), none, .mov (.c (.int .i64 700))⟩]
@[simp] def c_ref1_Open_r3 : List Ir := [⟨(some 23), none, .ldn 2 (.t 1)⟩,
  ⟨(some 25), none, .ldn 2 (.t 1)⟩,
  ⟨(some 4), none, .new [(.int .i64 0), (.int .i64 0)]⟩,
  ⟨(some 24), none, .call f_ref1_read [(.t 23), (.c (.int .i64 0))]⟩,
  ⟨(some 26), none, .call f_ref1_read [(.t 25), (.c (.int .i64 1))]⟩,
  ⟨(some 27), none, .call f_ref1_Best [(.t 24), (.t 26)]⟩,
  ⟨(some 22), none, .mov (.t 27)⟩,
  ⟨(some 28), none, .ext 0 (.t 22)⟩,
  ⟨(some 29), none, .ext 1 (.t 22)⟩,
  ⟨none, none, .st 2 (.t 4) (.t 28)⟩,
  ⟨(some 5), none, .mov (.t 29)⟩]
@[simp] def c_ref1_Open_r4 : List Ir := [⟨(some 30), none, .mov (.t 5)⟩,
  ⟨(some 31), none, .bin .neq 3 (.t 30) (.c (.int .i64 0))⟩]
@[simp] def c_ref1_Open_r5 : List Ir := [⟨(some 32), none, .build [(.int .i64 0), (.int .i64 0), (.int .i64 0), (.int .i64 0), (.slice none 0 0)] []⟩,
  ⟨(some 33), none, .mov (.t 5)⟩,
  ⟨none, none, .st 5 (.t 2) (.t 32)⟩,
  ⟨(some 3), none, .mov (.t 33)⟩]
@[simp] def c_ref1_Open_r6 : List Ir := [⟨(some 34), none, .ldn 2 (.t 4)⟩,
  ⟨(some 35), none, .build [(.int .i64 0), (.int .i64 0), (.int .i64 0), (.int .i64 0), (.slice none 0 0)] [(0, (2, (.t 34)))]⟩,
  ⟨(some 6), none, .new [(.int .i64 0), (.int .i64 0), (.int .i64 0), (.int .i64 0), (.slice none 0 0)]⟩,
  ⟨none, none, .st 5 (.t 6) (.t 35)⟩]
@[simp] def c_ref1_Open_r7 : List Ir := [⟨(some 7), none, .mov (.c (.int .i64 0))⟩]
@[simp] def c_ref1_Open_r8 : List Ir := [⟨(some 36), none, .mov (.t 7)⟩,
  ⟨(some 37), none, .bin .lss 3 (.t 36) (.c (.int .i64 48))⟩]
@[simp] def c_ref1_Open_r9 : List Ir := [⟨(some 40), none, .fadr 4 (.t 6)⟩,
  ⟨(some 41), none, .ld (.t 40)⟩,
  ⟨(some 42), none, .ldn 2 (.t 1)⟩,
  ⟨(some 43), none, .mov (.t 7)⟩,
  ⟨(some 44), none, .call f_ref1_homeText [(.t 42), (.t 43)]⟩,
  ⟨(some 45), none, .mkrow 1 1 [(.string ⟨#[]⟩)] [(0, (1, (.t 44)))]⟩,
  ⟨(some 46), none, .app 1 16 (.t 41) (.t 45)⟩,
  ⟨(some 47), none, .fadr 4 (.t 6)⟩,
  ⟨none, none, .st 1 (.t 47) (.t 46)⟩]
@[simp] def c_ref1_Open_r10 : List Ir := [⟨(some 38), none, .mov (.t 7)⟩,
  ⟨(some 39), none, .bin .add 3 (.t 38) (.c (.int .i64 1))⟩,
  ⟨(some 7), none, .mov (.t 39)⟩]
def c_ref1_Open_l11 : IC := (.seq (.seq (.reg c_ref1_Open_r8) (.cond (.t 37) .skip (.exit 0))) (.seq (.block 1 (.regd c_ref1_Open_r9 [(1, 4)])) (.reg c_ref1_Open_r10)))
@[simp] def c_ref1_Open_r12 : List Ir := [⟨(some 8), none, .mov (.c (.slice none 0 0))⟩]
@[simp] def c_ref1_Open_r13 : List Ir := [⟨(some 9), none, .mov (.c (.int .i64 0))⟩]
@[simp] def c_ref1_Open_r14 : List Ir := [⟨(some 48), none, .mov (.t 9)⟩,
  ⟨(some 49), none, .bin .lss 3 (.t 48) (.c (.int .i64 200))⟩]
@[simp] def c_ref1_Open_r15 : List Ir := [⟨(some 53), none, .ldn 2 (.t 1)⟩,
  ⟨(some 54), none, .mov (.t 9)⟩,
  ⟨(some 55), none, .bin .add 3 (.c (.int .i64 2)) (.t 54)⟩,
  ⟨(some 56), none, .call f_ref1_read [(.t 53), (.t 55)]⟩,
  ⟨(some 57), none, .call f_ref1_GetPair [(.t 56)]⟩,
  ⟨(some 52), none, .mov (.t 57)⟩,
  ⟨(some 58), none, .ext 0 (.t 52)⟩,
  ⟨(some 59), none, .ext 1 (.t 52)⟩,
  ⟨(some 10), none, .mov (.t 58)⟩,
  ⟨(some 11), none, .mov (.t 59)⟩]
@[simp] def c_ref1_Open_r16 : List Ir := [⟨(some 60), none, .mov (.t 8)⟩,
  ⟨(some 61), none, .mov (.t 10)⟩,
  ⟨(some 62), none, .mkrow 1 1 [(.string ⟨#[]⟩)] [(0, (1, (.t 61)))]⟩,
  ⟨(some 63), none, .app 1 16 (.t 60) (.t 62)⟩,
  ⟨(some 8), none, .mov (.t 63)⟩]
@[simp] def c_ref1_Open_r17 : List Ir := [⟨(some 50), none, .mov (.t 9)⟩,
  ⟨(some 51), none, .bin .add 3 (.t 50) (.c (.int .i64 1))⟩,
  ⟨(some 9), none, .mov (.t 51)⟩]
def c_ref1_Open_l18 : IC := (.seq (.seq (.reg c_ref1_Open_r14) (.cond (.t 49) .skip (.exit 2))) (.seq (.block 3 (.seq (.reg c_ref1_Open_r15) (.reg c_ref1_Open_r16))) (.reg c_ref1_Open_r17)))
@[simp] def c_ref1_Open_r19 : List Ir := [⟨(some 65), none, .mov (.t 8)⟩,
  ⟨(some 66), none, .fadr 1 (.t 4)⟩,
  ⟨(some 67), none, .ld (.t 66)⟩,
  ⟨(some 68), none, .call f_ref1_Scan [(.t 65), (.t 67)]⟩,
  ⟨(some 64), none, .mov (.t 68)⟩,
  ⟨(some 69), none, .ext 0 (.t 64)⟩,
  ⟨(some 70), none, .ext 1 (.t 64)⟩,
  ⟨(some 71), none, .ext 2 (.t 64)⟩,
  ⟨(some 72), none, .ext 3 (.t 64)⟩,
  ⟨(some 12), none, .mov (.t 69)⟩,
  ⟨(some 13), none, .mov (.t 70)⟩,
  ⟨(some 14), none, .mov (.t 71)⟩,
  ⟨(some 15), none, .mov (.t 72)⟩]
@[simp] def c_ref1_Open_r20 : List Ir := [⟨(some 16), none, .mov (.c (.int .i64 0))⟩]
@[simp] def c_ref1_Open_r21 : List Ir := [⟨(some 73), none, .mov (.t 16)⟩,
  ⟨(some 74), none, .mov (.t 12)⟩,
  ⟨(some 75), none, .lenV (.t 74)⟩,
  ⟨(some 76), none, .bin .lss 3 (.t 73) (.t 75)⟩]
@[simp] def c_ref1_Open_r22 : List Ir := [⟨(some 17), none, .mov (.c (.int .i64 0))⟩]
@[simp] def c_ref1_Open_r23 : List Ir := [⟨(some 79), none, .mov (.t 17)⟩,
  ⟨(some 80), none, .mov (.t 12)⟩,
  ⟨(some 81), none, .mov (.t 16)⟩,
  ⟨(some 82), none, .iadrS 1 (.t 80) (.t 81)⟩,
  ⟨(some 83), none, .ld (.t 82)⟩,
  ⟨(some 84), none, .lenV (.t 83)⟩,
  ⟨(some 85), none, .bin .lss 3 (.t 79) (.t 84)⟩]
@[simp] def c_ref1_Open_r24 : List Ir := [⟨(some 88), none, .fadr 4 (.t 6)⟩,
  ⟨(some 89), none, .ld (.t 88)⟩,
  ⟨(some 90), none, .mov (.t 12)⟩,
  ⟨(some 91), none, .mov (.t 16)⟩,
  ⟨(some 92), none, .iadrS 1 (.t 90) (.t 91)⟩,
  ⟨(some 93), none, .ld (.t 92)⟩,
  ⟨(some 94), none, .mov (.t 17)⟩,
  ⟨(some 95), none, .iadrS 2 (.t 93) (.t 94)⟩,
  ⟨(some 96), none, .fadr 0 (.t 95)⟩,
  ⟨(some 97), none, .ld (.t 96)⟩,
  ⟨(some 98), none, .mov (.t 12)⟩,
  ⟨(some 99), none, .mov (.t 16)⟩,
  ⟨(some 100), none, .iadrS 1 (.t 98) (.t 99)⟩,
  ⟨(some 101), none, .ld (.t 100)⟩,
  ⟨(some 102), none, .mov (.t 17)⟩,
  ⟨(some 103), none, .iadrS 2 (.t 101) (.t 102)⟩,
  ⟨(some 104), none, .fadr 1 (.t 103)⟩,
  ⟨(some 105), none, .ld (.t 104)⟩,
  ⟨(some 106), none, .iadrS 1 (.t 89) (.t 97)⟩,
  ⟨none, none, .st 1 (.t 106) (.t 105)⟩]
@[simp] def c_ref1_Open_r25 : List Ir := [⟨(some 86), none, .mov (.t 17)⟩,
  ⟨(some 87), none, .bin .add 3 (.t 86) (.c (.int .i64 1))⟩,
  ⟨(some 17), none, .mov (.t 87)⟩]
def c_ref1_Open_l26 : IC := (.seq (.seq (.reg c_ref1_Open_r23) (.cond (.t 85) .skip (.exit 6))) (.seq (.block 7 (.regd c_ref1_Open_r24 [])) (.reg c_ref1_Open_r25)))
@[simp] def c_ref1_Open_r27 : List Ir := [⟨(some 77), none, .mov (.t 16)⟩,
  ⟨(some 78), none, .bin .add 3 (.t 77) (.c (.int .i64 1))⟩,
  ⟨(some 16), none, .mov (.t 78)⟩]
def c_ref1_Open_l28 : IC := (.seq (.seq (.reg c_ref1_Open_r21) (.cond (.t 76) .skip (.exit 4))) (.seq (.block 5 (.seq (.reg c_ref1_Open_r22) (.block 6 (.loop c_ref1_Open_l26)))) (.reg c_ref1_Open_r27)))
@[simp] def c_ref1_Open_r29 : List Ir := [⟨(some 107), none, .mov (.t 13)⟩,
  ⟨(some 108), none, .fadr 2 (.t 6)⟩,
  ⟨none, none, .st 1 (.t 108) (.t 107)⟩]
@[simp] def c_ref1_Open_r30 : List Ir := [⟨(some 109), none, .mov (.t 14)⟩,
  ⟨(some 110), none, .fadr 3 (.t 6)⟩,
  ⟨none, none, .st 1 (.t 110) (.t 109)⟩]
@[simp] def c_ref1_Open_r31 : List Ir := [⟨(some 111), none, .ldn 5 (.t 6)⟩,
  ⟨none, none, .st 5 (.t 2) (.t 111)⟩,
  ⟨(some 3), none, .mov (.c (.int .i64 0))⟩]
@[simp] def c_ref1_Open : IFn := ⟨(.seq (.reg c_ref1_Open_r0) (.seq (.seq (.reg c_ref1_Open_r1) (.cond (.t 20) (.seq (.reg c_ref1_Open_r2) .ret) .skip)) (.seq (.regd c_ref1_Open_r3 [(1, 3)]) (.seq (.seq (.reg c_ref1_Open_r4) (.cond (.t 31) (.seq (.reg c_ref1_Open_r5) .ret) .skip)) (.seq (.reg c_ref1_Open_r6) (.seq (.seq (.reg c_ref1_Open_r7) (.block 0 (.loop c_ref1_Open_l11))) (.seq (.reg c_ref1_Open_r12) (.seq (.seq (.reg c_ref1_Open_r13) (.block 2 (.loop c_ref1_Open_l18))) (.seq (.reg c_ref1_Open_r19) (.seq (.seq (.reg c_ref1_Open_r20) (.block 4 (.loop c_ref1_Open_l28))) (.seq (.reg c_ref1_Open_r29) (.seq (.reg c_ref1_Open_r30) (.seq (.reg c_ref1_Open_r31) .ret))))))))))))), 112, [.ldn 2 5, .tmp 3]⟩

theorem fc_ref1_Open : fnAt Try.prog f_ref1_Open = some c_ref1_Open := by kernel_rfl
@[simp] def c_law0_SameTexts_r0 : List Ir := [⟨(some 4), none, .mov (.c (.bool false))⟩]
@[simp] def c_law0_SameTexts_r1 : List Ir := [⟨(some 6), none, .mov (.t 0)⟩,
  ⟨(some 7), none, .lenV (.t 6)⟩,
  ⟨(some 8), none, .mov (.t 1)⟩,
  ⟨(some 9), none, .lenV (.t 8)⟩,
  ⟨(some 10), none, .bin .neq 3 (.t 7) (.t 9)⟩]
@[simp] def c_law0_SameTexts_r2 : List Ir := [⟨(some 4), none, .mov (.c (.bool false))⟩]
@[simp] def c_law0_SameTexts_r3 : List Ir := [⟨(some 5), none, .mov (.c (.int .i64 0))⟩]
@[simp] def c_law0_SameTexts_r4 : List Ir := [⟨(some 11), none, .mov (.t 5)⟩,
  ⟨(some 12), none, .mov (.t 0)⟩,
  ⟨(some 13), none, .lenV (.t 12)⟩,
  ⟨(some 14), none, .bin .lss 3 (.t 11) (.t 13)⟩]
@[simp] def c_law0_SameTexts_r5 : List Ir := [⟨(some 17), none, .mov (.t 0)⟩,
  ⟨(some 18), none, .mov (.t 5)⟩,
  ⟨(some 19), none, .iadrS 1 (.t 17) (.t 18)⟩,
  ⟨(some 20), none, .ld (.t 19)⟩,
  ⟨(some 21), none, .mov (.t 1)⟩,
  ⟨(some 22), none, .mov (.t 5)⟩,
  ⟨(some 23), none, .iadrS 1 (.t 21) (.t 22)⟩,
  ⟨(some 24), none, .ld (.t 23)⟩,
  ⟨(some 25), none, .bin .neq 9 (.t 20) (.t 24)⟩]
@[simp] def c_law0_SameTexts_r6 : List Ir := [⟨(some 4), none, .mov (.c (.bool false))⟩]
@[simp] def c_law0_SameTexts_r7 : List Ir := [⟨(some 15), none, .mov (.t 5)⟩,
  ⟨(some 16), none, .bin .add 3 (.t 15) (.c (.int .i64 1))⟩,
  ⟨(some 5), none, .mov (.t 16)⟩]
def c_law0_SameTexts_l8 : IC := (.seq (.seq (.reg c_law0_SameTexts_r4) (.cond (.t 14) .skip (.exit 0))) (.seq (.block 1 (.seq (.regd c_law0_SameTexts_r5 []) (.cond (.t 25) (.seq (.reg c_law0_SameTexts_r6) .ret) .skip))) (.reg c_law0_SameTexts_r7)))
@[simp] def c_law0_SameTexts_r9 : List Ir := [⟨(some 4), none, .mov (.c (.bool true))⟩]
@[simp] def c_law0_SameTexts : IFn := ⟨(.seq (.reg c_law0_SameTexts_r0) (.seq (.seq (.reg c_law0_SameTexts_r1) (.cond (.t 10) (.seq (.reg c_law0_SameTexts_r2) .ret) .skip)) (.seq (.seq (.reg c_law0_SameTexts_r3) (.block 0 (.loop c_law0_SameTexts_l8))) (.seq (.reg c_law0_SameTexts_r9) .ret)))), 26, [.tmp 4]⟩

theorem fc_law0_SameTexts : fnAt Try.prog f_law0_SameTexts = some c_law0_SameTexts := by kernel_rfl
@[simp] def c_ref1_Blank_r0 : List Ir := [⟨(some 0), none, .new [(.int .i64 0), (.int .i64 0), (.int .i64 0), (.int .i64 0), (.slice none 0 0)]⟩]
@[simp] def c_ref1_Blank_r1 : List Ir := [⟨(some 1), none, .build [(.int .i64 0), (.int .i64 0)] [(1, (1, (.c (.int .i64 1))))]⟩,
  ⟨(some 2), none, .mks 1 16 [(.string ⟨#[]⟩)] (.c (.int .i64 48)) (.c (.int .i64 48))⟩,
  ⟨(some 3), none, .build [(.int .i64 0), (.int .i64 0), (.int .i64 0), (.int .i64 0), (.slice none 0 0)] [(0, (2, (.t 1))), (2, (1, (.c (.int .i64 1)))), (4, (1, (.t 2)))]⟩,
  ⟨none, none, .st 5 (.t 0) (.t 3)⟩]
@[simp] def c_ref1_Blank : IFn := ⟨(.seq (.reg c_ref1_Blank_r0) (.seq (.reg c_ref1_Blank_r1) .ret)), 4, [.ldn 0 5]⟩

theorem fc_ref1_Blank : fnAt Try.prog f_ref1_Blank = some c_ref1_Blank := by kernel_rfl
@[simp] def c_open_Open_r0 : List Ir := [⟨(some 1), none, .box 2 (.t 0)⟩,
  ⟨(some 2), none, .new [(.int .i64 0), (.int .i64 0), (.int .i64 0), (.int .i64 0), (.slice none 0 0)]⟩,
  ⟨(some 3), none, .mov (.c (.int .i64 0))⟩]
@[simp] def c_open_Open_r1 : List Ir := [⟨(some 22), none, .ldn 2 (.t 1)⟩,
  ⟨(some 23), none, .call f_disk_May [(.t 22)]⟩,
  ⟨(some 24), none, .un .not (.t 23)⟩]
@[simp] def c_open_Open_r2 : List Ir := [⟨(some 25), none, .build [(.int .i64 0), (.int .i64 0), (.int .i64 0), (.int .i64 0), (.slice none 0 0)] []⟩,
  ⟨none, none, .st 5 (.t 2) (.t 25)⟩,
  ⟨(some 3), none, .mov (.c (.int .i64 700))⟩]
@[simp] def c_open_Open_r3 : List Ir := [⟨(some 27), none, .ldn 2 (.t 1)⟩,
  ⟨(some 28), none, .call f_disk_Read [(.t 27), (.c (.int .i64 0))]⟩,
  ⟨(some 26), none, .mov (.t 28)⟩,
  ⟨(some 29), none, .ext 0 (.t 26)⟩,
  ⟨(some 30), none, .ext 1 (.t 26)⟩,
  ⟨(some 4), none, .mov (.t 29)⟩,
  ⟨(some 5), none, .mov (.t 30)⟩]
@[simp] def c_open_Open_r4 : List Ir := [⟨(some 32), none, .ldn 2 (.t 1)⟩,
  ⟨(some 33), none, .call f_disk_Read [(.t 32), (.c (.int .i64 1))]⟩,
  ⟨(some 31), none, .mov (.t 33)⟩,
  ⟨(some 34), none, .ext 0 (.t 31)⟩,
  ⟨(some 35), none, .ext 1 (.t 31)⟩,
  ⟨(some 6), none, .mov (.t 34)⟩,
  ⟨(some 7), none, .mov (.t 35)⟩]
@[simp] def c_open_Open_r5 : List Ir := [⟨(some 37), none, .mov (.t 4)⟩,
  ⟨(some 38), none, .mov (.t 6)⟩,
  ⟨(some 39), none, .call f_head_Best [(.t 37), (.t 38)]⟩,
  ⟨(some 36), none, .mov (.t 39)⟩,
  ⟨(some 40), none, .ext 0 (.t 36)⟩,
  ⟨(some 41), none, .ext 1 (.t 36)⟩,
  ⟨(some 8), none, .new [(.int .i64 0), (.int .i64 0)]⟩,
  ⟨none, none, .st 2 (.t 8) (.t 40)⟩,
  ⟨(some 9), none, .mov (.t 41)⟩]
@[simp] def c_open_Open_r6 : List Ir := [⟨(some 42), none, .mov (.t 9)⟩,
  ⟨(some 43), none, .bin .neq 31 (.t 42) (.c (.int .i64 0))⟩]
@[simp] def c_open_Open_r7 : List Ir := [⟨(some 44), none, .build [(.int .i64 0), (.int .i64 0), (.int .i64 0), (.int .i64 0), (.slice none 0 0)] []⟩,
  ⟨(some 45), none, .mov (.t 9)⟩,
  ⟨none, none, .st 5 (.t 2) (.t 44)⟩,
  ⟨(some 3), none, .mov (.t 45)⟩]
@[simp] def c_open_Open_r8 : List Ir := [⟨(some 46), none, .ldn 2 (.t 8)⟩,
  ⟨(some 47), none, .build [(.int .i64 0), (.int .i64 0), (.int .i64 0), (.int .i64 0), (.slice none 0 0)] [(0, (2, (.t 46)))]⟩,
  ⟨(some 10), none, .new [(.int .i64 0), (.int .i64 0), (.int .i64 0), (.int .i64 0), (.slice none 0 0)]⟩,
  ⟨none, none, .st 5 (.t 10) (.t 47)⟩]
@[simp] def c_open_Open_r9 : List Ir := [⟨(some 48), none, .mov (.c (.int .i64 0))⟩]
@[simp] def c_open_Open_r10 : List Ir := [⟨(some 49), none, .bin .lss 3 (.t 48) (.c (.int .i64 48))⟩]
@[simp] def c_open_Open_r11 : List Ir := [⟨(some 50), none, .mov (.t 48)⟩,
  ⟨(some 11), none, .mov (.t 50)⟩]
@[simp] def c_open_Open_r12 : List Ir := [⟨(some 51), none, .fadr 4 (.t 10)⟩,
  ⟨(some 52), none, .ld (.t 51)⟩,
  ⟨(some 53), none, .ldn 2 (.t 1)⟩,
  ⟨(some 54), none, .mov (.t 11)⟩,
  ⟨(some 55), none, .call f_open_home [(.t 53), (.t 54)]⟩,
  ⟨(some 56), none, .mkrow 1 1 [(.string ⟨#[]⟩)] [(0, (1, (.t 55)))]⟩,
  ⟨(some 57), none, .app 1 16 (.t 52) (.t 56)⟩,
  ⟨(some 58), none, .fadr 4 (.t 10)⟩,
  ⟨none, none, .st 1 (.t 58) (.t 57)⟩]
@[simp] def c_open_Open_r13 : List Ir := [⟨(some 59), none, .bin .add 3 (.t 48) (.c (.int .i64 1))⟩,
  ⟨(some 48), none, .mov (.t 59)⟩]
def c_open_Open_l14 : IC := (.seq (.reg c_open_Open_r10) (.seq (.cond (.t 49) .skip (.exit 0)) (.seq (.block 1 (.seq (.reg c_open_Open_r11) (.regd c_open_Open_r12 [(1, 4)]))) (.reg c_open_Open_r13))))
@[simp] def c_open_Open_r15 : List Ir := [⟨(some 12), none, .mov (.c (.slice none 0 0))⟩]
@[simp] def c_open_Open_r16 : List Ir := [⟨(some 60), none, .mov (.c (.int .i64 0))⟩]
@[simp] def c_open_Open_r17 : List Ir := [⟨(some 61), none, .bin .lss 3 (.t 60) (.c (.int .i64 200))⟩]
@[simp] def c_open_Open_r18 : List Ir := [⟨(some 62), none, .mov (.t 60)⟩,
  ⟨(some 13), none, .mov (.t 62)⟩]
@[simp] def c_open_Open_r19 : List Ir := [⟨(some 63), none, .mov (.t 12)⟩,
  ⟨(some 64), none, .ldn 2 (.t 1)⟩,
  ⟨(some 65), none, .mov (.t 13)⟩,
  ⟨(some 66), none, .bin .add 3 (.c (.int .i64 2)) (.t 65)⟩,
  ⟨(some 67), none, .call f_open_whole [(.t 64), (.t 66)]⟩,
  ⟨(some 68), none, .mkrow 1 1 [(.string ⟨#[]⟩)] [(0, (1, (.t 67)))]⟩,
  ⟨(some 69), none, .app 1 16 (.t 63) (.t 68)⟩,
  ⟨(some 12), none, .mov (.t 69)⟩]
@[simp] def c_open_Open_r20 : List Ir := [⟨(some 70), none, .bin .add 3 (.t 60) (.c (.int .i64 1))⟩,
  ⟨(some 60), none, .mov (.t 70)⟩]
def c_open_Open_l21 : IC := (.seq (.reg c_open_Open_r17) (.seq (.cond (.t 61) .skip (.exit 2)) (.seq (.block 3 (.seq (.reg c_open_Open_r18) (.reg c_open_Open_r19))) (.reg c_open_Open_r20))))
@[simp] def c_open_Open_r22 : List Ir := [⟨(some 72), none, .mov (.t 12)⟩,
  ⟨(some 73), none, .fadr 1 (.t 8)⟩,
  ⟨(some 74), none, .ld (.t 73)⟩,
  ⟨(some 75), none, .call f_log_Scan [(.t 72), (.t 74)]⟩,
  ⟨(some 71), none, .mov (.t 75)⟩,
  ⟨(some 76), none, .ext 0 (.t 71)⟩,
  ⟨(some 77), none, .ext 1 (.t 71)⟩,
  ⟨(some 78), none, .ext 2 (.t 71)⟩,
  ⟨(some 79), none, .ext 3 (.t 71)⟩,
  ⟨(some 14), none, .mov (.t 76)⟩,
  ⟨(some 15), none, .mov (.t 77)⟩,
  ⟨(some 16), none, .mov (.t 78)⟩,
  ⟨(some 17), none, .mov (.t 79)⟩]
@[simp] def c_open_Open_r23 : List Ir := [⟨(some 80), none, .mov (.t 14)⟩,
  ⟨(some 81), none, .lenV (.t 80)⟩,
  ⟨(some 82), none, .mov (.c (.int .i64 0))⟩]
@[simp] def c_open_Open_r24 : List Ir := [⟨(some 83), none, .bin .lss 3 (.t 82) (.t 81)⟩]
@[simp] def c_open_Open_r25 : List Ir := [⟨(some 84), none, .iadrS 1 (.t 80) (.t 82)⟩,
  ⟨(some 85), none, .ld (.t 84)⟩,
  ⟨(some 19), none, .mov (.t 85)⟩]
@[simp] def c_open_Open_r26 : List Ir := [⟨(some 86), none, .mov (.t 19)⟩,
  ⟨(some 87), none, .lenV (.t 86)⟩,
  ⟨(some 88), none, .mov (.c (.int .i64 0))⟩]
@[simp] def c_open_Open_r27 : List Ir := [⟨(some 89), none, .bin .lss 3 (.t 88) (.t 87)⟩]
@[simp] def c_open_Open_r28 : List Ir := [⟨(some 90), none, .iadrS 2 (.t 86) (.t 88)⟩,
  ⟨(some 91), none, .ldn 2 (.t 90)⟩,
  ⟨(some 21), none, .new [(.int .i64 0), (.string ⟨#[]⟩)]⟩,
  ⟨none, none, .st 2 (.t 21) (.t 91)⟩]
@[simp] def c_open_Open_r29 : List Ir := [⟨(some 92), none, .fadr 4 (.t 10)⟩,
  ⟨(some 93), none, .ld (.t 92)⟩,
  ⟨(some 94), none, .fadr 0 (.t 21)⟩,
  ⟨(some 95), none, .ld (.t 94)⟩,
  ⟨(some 96), none, .fadr 1 (.t 21)⟩,
  ⟨(some 97), none, .ld (.t 96)⟩,
  ⟨(some 98), none, .iadrS 1 (.t 93) (.t 95)⟩,
  ⟨none, none, .st 1 (.t 98) (.t 97)⟩]
@[simp] def c_open_Open_r30 : List Ir := [⟨(some 99), none, .bin .add 3 (.t 88) (.c (.int .i64 1))⟩,
  ⟨(some 88), none, .mov (.t 99)⟩]
def c_open_Open_l31 : IC := (.seq (.reg c_open_Open_r27) (.seq (.cond (.t 89) .skip (.exit 6)) (.seq (.block 7 (.seq (.reg c_open_Open_r28) (.reg c_open_Open_r29))) (.reg c_open_Open_r30))))
@[simp] def c_open_Open_r32 : List Ir := [⟨(some 100), none, .bin .add 3 (.t 82) (.c (.int .i64 1))⟩,
  ⟨(some 82), none, .mov (.t 100)⟩]
def c_open_Open_l33 : IC := (.seq (.reg c_open_Open_r24) (.seq (.cond (.t 83) .skip (.exit 4)) (.seq (.block 5 (.seq (.reg c_open_Open_r25) (.seq (.reg c_open_Open_r26) (.block 6 (.loop c_open_Open_l31))))) (.reg c_open_Open_r32))))
@[simp] def c_open_Open_r34 : List Ir := [⟨(some 101), none, .mov (.t 15)⟩,
  ⟨(some 102), none, .mov (.t 16)⟩,
  ⟨(some 103), none, .fadr 2 (.t 10)⟩,
  ⟨none, none, .st 1 (.t 103) (.t 101)⟩,
  ⟨(some 104), none, .fadr 3 (.t 10)⟩,
  ⟨none, none, .st 1 (.t 104) (.t 102)⟩]
@[simp] def c_open_Open_r35 : List Ir := [⟨(some 105), none, .ldn 5 (.t 10)⟩,
  ⟨none, none, .st 5 (.t 2) (.t 105)⟩,
  ⟨(some 3), none, .mov (.c (.int .i64 0))⟩]
@[simp] def c_open_Open : IFn := ⟨(.seq (.reg c_open_Open_r0) (.seq (.seq (.reg c_open_Open_r1) (.cond (.t 24) (.seq (.reg c_open_Open_r2) .ret) .skip)) (.seq (.reg c_open_Open_r3) (.seq (.reg c_open_Open_r4) (.seq (.reg c_open_Open_r5) (.seq (.seq (.reg c_open_Open_r6) (.cond (.t 43) (.seq (.reg c_open_Open_r7) .ret) .skip)) (.seq (.reg c_open_Open_r8) (.seq (.seq (.reg c_open_Open_r9) (.block 0 (.loop c_open_Open_l14))) (.seq (.reg c_open_Open_r15) (.seq (.seq (.reg c_open_Open_r16) (.block 2 (.loop c_open_Open_l21))) (.seq (.reg c_open_Open_r22) (.seq (.seq (.reg c_open_Open_r23) (.block 4 (.loop c_open_Open_l33))) (.seq (.reg c_open_Open_r34) (.seq (.reg c_open_Open_r35) .ret)))))))))))))), 106, [.ldn 2 5, .tmp 3]⟩

theorem fc_open_Open : fnAt Try.prog f_open_Open = some c_open_Open := by kernel_rfl
@[simp] def c_open_Blank_r0 : List Ir := [⟨(some 0), none, .new [(.int .i64 0), (.int .i64 0), (.int .i64 0), (.int .i64 0), (.slice none 0 0)]⟩]
@[simp] def c_open_Blank_r1 : List Ir := [⟨(some 1), none, .build [(.int .i64 0), (.int .i64 0)] [(1, (1, (.c (.int .i64 1))))]⟩,
  ⟨(some 2), none, .mks 1 16 [(.string ⟨#[]⟩)] (.c (.int .i64 48)) (.c (.int .i64 48))⟩,
  ⟨(some 3), none, .build [(.int .i64 0), (.int .i64 0), (.int .i64 0), (.int .i64 0), (.slice none 0 0)] [(0, (2, (.t 1))), (2, (1, (.c (.int .i64 1)))), (4, (1, (.t 2)))]⟩,
  ⟨none, none, .st 5 (.t 0) (.t 3)⟩]
@[simp] def c_open_Blank : IFn := ⟨(.seq (.reg c_open_Blank_r0) (.seq (.reg c_open_Blank_r1) .ret)), 4, [.ldn 0 5]⟩

theorem fc_open_Blank : fnAt Try.prog f_open_Blank = some c_open_Blank := by kernel_rfl
@[simp] def c_law7_done_r0 : List Ir := [⟨(some 2), none, .box 2 (.t 0)⟩,
  ⟨(some 4), none, .new [(.slice none 0 0), (.slice none 0 0)]⟩]
@[simp] def c_law7_done_r1 : List Ir := [⟨(some 5), none, .mov (.c (.int .i64 0))⟩]
@[simp] def c_law7_done_r2 : List Ir := [⟨(some 8), none, .mov (.t 5)⟩,
  ⟨(some 9), none, .mov (.t 1)⟩,
  ⟨(some 10), none, .lenV (.t 9)⟩,
  ⟨(some 11), none, .bin .lss 3 (.t 8) (.t 10)⟩]
@[simp] def c_law7_done_r3 : List Ir := [⟨(some 15), none, .ldn 2 (.t 2)⟩,
  ⟨(some 16), none, .mov (.t 1)⟩,
  ⟨(some 17), none, .mov (.t 5)⟩,
  ⟨(some 18), none, .iadrS 3 (.t 16) (.t 17)⟩,
  ⟨(some 19), none, .ldn 3 (.t 18)⟩,
  ⟨(some 6), none, .new [(.slice none 0 0), (.slice none 0 0)]⟩,
  ⟨(some 20), none, .call f_ref1_Do [(.t 15), (.t 19)]⟩,
  ⟨(some 14), none, .mov (.t 20)⟩,
  ⟨(some 21), none, .ext 0 (.t 14)⟩,
  ⟨(some 22), none, .ext 1 (.t 14)⟩,
  ⟨none, none, .st 2 (.t 6) (.t 21)⟩,
  ⟨(some 7), none, .mov (.t 22)⟩]
@[simp] def c_law7_done_r4 : List Ir := [⟨(some 23), none, .mov (.t 7)⟩,
  ⟨(some 24), none, .bin .eql 3 (.t 23) (.c (.int .i64 0))⟩]
@[simp] def c_law7_done_r5 : List Ir := [⟨(some 25), none, .ldn 2 (.t 6)⟩,
  ⟨none, none, .st 2 (.t 2) (.t 25)⟩]
@[simp] def c_law7_done_r6 : List Ir := [⟨(some 12), none, .mov (.t 5)⟩,
  ⟨(some 13), none, .bin .add 3 (.t 12) (.c (.int .i64 1))⟩,
  ⟨(some 5), none, .mov (.t 13)⟩]
def c_law7_done_l7 : IC := (.seq (.seq (.reg c_law7_done_r2) (.cond (.t 11) .skip (.exit 0))) (.seq (.block 1 (.seq (.regd c_law7_done_r3 []) (.seq (.reg c_law7_done_r4) (.cond (.t 24) (.reg c_law7_done_r5) .skip)))) (.reg c_law7_done_r6)))
@[simp] def c_law7_done_r8 : List Ir := [⟨(some 26), none, .ldn 2 (.t 2)⟩,
  ⟨none, none, .st 2 (.t 4) (.t 26)⟩]
@[simp] def c_law7_done : IFn := ⟨(.seq (.reg c_law7_done_r0) (.seq (.seq (.reg c_law7_done_r1) (.block 0 (.loop c_law7_done_l7))) (.seq (.reg c_law7_done_r8) .ret))), 27, [.ldn 4 2]⟩

theorem fc_law7_done : fnAt Try.prog f_law7_done = some c_law7_done := by kernel_rfl
@[simp] def c_pair_Put_r0 : List Ir := [⟨(some 2), none, .mov (.c (.string ⟨#[]⟩))⟩,
  ⟨(some 3), none, .mov (.c (.int .i64 0))⟩]
@[simp] def c_pair_Put_r1 : List Ir := [⟨(some 6), none, .mov (.t 0)⟩,
  ⟨(some 7), none, .lenS (.t 6)⟩,
  ⟨(some 8), none, .bin .neq 3 (.t 7) (.c (.int .i64 32))⟩]
@[simp] def c_pair_Put_r2 : List Ir := [⟨(some 2), none, .mov (.c (.string ⟨#[]⟩))⟩,
  ⟨(some 3), none, .mov (.c (.int .i64 100))⟩]
@[simp] def c_pair_Put_r3 : List Ir := [⟨(some 9), none, .mov (.t 0)⟩,
  ⟨(some 10), none, .s2b (.t 9)⟩,
  ⟨(some 4), none, .mov (.t 10)⟩]
@[simp] def c_pair_Put_r4 : List Ir := [⟨(some 11), none, .mov (.t 0)⟩,
  ⟨(some 12), none, .lenS (.t 11)⟩,
  ⟨(some 13), none, .mov (.c (.int .i64 0))⟩]
@[simp] def c_pair_Put_r5 : List Ir := [⟨(some 14), none, .bin .lss 3 (.t 13) (.t 12)⟩]
@[simp] def c_pair_Put_r6 : List Ir := [⟨(some 15), none, .mov (.t 13)⟩,
  ⟨(some 5), none, .mov (.t 15)⟩]
@[simp] def c_pair_Put_r7 : List Ir := [⟨(some 16), none, .mov (.t 4)⟩,
  ⟨(some 17), none, .mov (.t 0)⟩,
  ⟨(some 18), none, .mov (.t 5)⟩,
  ⟨(some 19), none, .idxS (.t 17) (.t 18)⟩,
  ⟨(some 20), none, .un .xor (.t 19)⟩,
  ⟨(some 21), none, .mkrow 1 1 [(.int .u8 0)] [(0, (1, (.t 20)))]⟩,
  ⟨(some 22), none, .app 1 1 (.t 16) (.t 21)⟩,
  ⟨(some 4), none, .mov (.t 22)⟩]
@[simp] def c_pair_Put_r8 : List Ir := [⟨(some 23), none, .bin .add 3 (.t 13) (.c (.int .i64 1))⟩,
  ⟨(some 13), none, .mov (.t 23)⟩]
def c_pair_Put_l9 : IC := (.seq (.reg c_pair_Put_r5) (.seq (.cond (.t 14) .skip (.exit 0)) (.seq (.block 1 (.seq (.reg c_pair_Put_r6) (.reg c_pair_Put_r7))) (.reg c_pair_Put_r8))))
@[simp] def c_pair_Put_r10 : List Ir := [⟨(some 24), none, .mov (.t 4)⟩,
  ⟨(some 25), none, .b2s (.t 24)⟩,
  ⟨(some 2), none, .mov (.t 25)⟩,
  ⟨(some 3), none, .mov (.c (.int .i64 0))⟩]
@[simp] def c_pair_Put : IFn := ⟨(.seq (.reg c_pair_Put_r0) (.seq (.seq (.reg c_pair_Put_r1) (.cond (.t 8) (.seq (.reg c_pair_Put_r2) .ret) .skip)) (.seq (.reg c_pair_Put_r3) (.seq (.seq (.reg c_pair_Put_r4) (.block 0 (.loop c_pair_Put_l9))) (.seq (.reg c_pair_Put_r10) .ret))))), 26, [.tmp 2, .tmp 3]⟩

theorem fc_pair_Put : fnAt Try.prog f_pair_Put = some c_pair_Put := by kernel_rfl
@[simp] def c_pair_Get_r0 : List Ir := [⟨(some 2), none, .mov (.c (.string ⟨#[]⟩))⟩,
  ⟨(some 3), none, .mov (.c (.int .i64 0))⟩]
@[simp] def c_pair_Get_r1 : List Ir := [⟨(some 6), none, .mov (.t 0)⟩,
  ⟨(some 7), none, .lenS (.t 6)⟩,
  ⟨(some 8), none, .bin .eql 3 (.t 7) (.c (.int .i64 64))⟩]
@[simp] def c_pair_Get_r2 : List Ir := [⟨(some 10), none, .mov (.t 0)⟩,
  ⟨(some 11), none, .sls (.t 10) none (some (.c (.int .i64 32)))⟩,
  ⟨(some 12), none, .call f_pair_Put [(.t 11)]⟩,
  ⟨(some 9), none, .mov (.t 12)⟩,
  ⟨(some 13), none, .ext 0 (.t 9)⟩,
  ⟨(some 14), none, .ext 1 (.t 9)⟩,
  ⟨(some 4), none, .mov (.t 13)⟩,
  ⟨(some 5), none, .mov (.t 14)⟩]
@[simp] def c_pair_Get_r3 : List Ir := [⟨(some 15), none, .mov (.t 4)⟩,
  ⟨(some 16), none, .mov (.t 0)⟩,
  ⟨(some 17), none, .bin .eql 9 (.t 15) (.t 16)⟩]
@[simp] def c_pair_Get_r4 : List Ir := [⟨(some 18), none, .mov (.t 0)⟩,
  ⟨(some 19), none, .sls (.t 18) none (some (.c (.int .i64 32)))⟩,
  ⟨(some 2), none, .mov (.t 19)⟩,
  ⟨(some 3), none, .mov (.c (.int .i64 0))⟩]
@[simp] def c_pair_Get_r5 : List Ir := [⟨(some 2), none, .mov (.c (.string ⟨#[]⟩))⟩,
  ⟨(some 3), none, .mov (.c (.int .i64 100))⟩]
@[simp] def c_pair_Get : IFn := ⟨(.seq (.reg c_pair_Get_r0) (.seq (.seq (.reg c_pair_Get_r1) (.cond (.t 8) (.seq (.reg c_pair_Get_r2) (.seq (.reg c_pair_Get_r3) (.cond (.t 17) (.seq (.reg c_pair_Get_r4) .ret) .skip))) .skip)) (.seq (.reg c_pair_Get_r5) .ret))), 20, [.tmp 2, .tmp 3]⟩

theorem fc_pair_Get : fnAt Try.prog f_pair_Get = some c_pair_Get := by kernel_rfl
@[simp] def c_pair_Torn_r0 : List Ir := [⟨(some 6), none, .mov (.c (.string ⟨#[]⟩))⟩,
  ⟨(some 7), none, .mov (.c (.int .i64 0))⟩]
@[simp] def c_pair_Torn_r1 : List Ir := [⟨(some 8), none, .mov (.t 0)⟩,
  ⟨(some 9), none, .lenS (.t 8)⟩,
  ⟨(some 10), none, .bin .neq 3 (.t 9) (.c (.int .i64 64))⟩,
  ⟨(some 11), none, .mov (.t 10)⟩,
  ⟨(some 12), (some (11, false)), .mov (.t 1)⟩,
  ⟨(some 13), (some (11, false)), .lenS (.t 12)⟩,
  ⟨(some 14), (some (11, false)), .bin .neq 3 (.t 13) (.c (.int .i64 64))⟩,
  ⟨(some 15), none, .pick (.t 11) (.c (.bool true)) (.t 14)⟩,
  ⟨(some 16), none, .mov (.t 15)⟩,
  ⟨(some 17), (some (16, false)), .mov (.t 2)⟩,
  ⟨(some 18), (some (16, false)), .bin .lss 3 (.t 17) (.c (.int .i64 0))⟩,
  ⟨(some 19), none, .pick (.t 16) (.c (.bool true)) (.t 18)⟩,
  ⟨(some 20), none, .mov (.t 19)⟩,
  ⟨(some 21), (some (20, false)), .mov (.t 2)⟩,
  ⟨(some 22), (some (20, false)), .bin .gtr 3 (.t 21) (.c (.int .i64 64))⟩,
  ⟨(some 23), none, .pick (.t 20) (.c (.bool true)) (.t 22)⟩]
@[simp] def c_pair_Torn_r2 : List Ir := [⟨(some 6), none, .mov (.c (.string ⟨#[]⟩))⟩,
  ⟨(some 7), none, .mov (.c (.int .i64 100))⟩]
@[simp] def c_pair_Torn_r3 : List Ir := [⟨(some 24), none, .mov (.t 1)⟩,
  ⟨(some 25), none, .mov (.t 2)⟩,
  ⟨(some 26), none, .sls (.t 24) none (some (.t 25))⟩,
  ⟨(some 27), none, .mov (.t 0)⟩,
  ⟨(some 28), none, .mov (.t 2)⟩,
  ⟨(some 29), none, .sls (.t 27) (some (.t 28)) none⟩,
  ⟨(some 30), none, .bin .add 9 (.t 26) (.t 29)⟩,
  ⟨(some 6), none, .mov (.t 30)⟩,
  ⟨(some 7), none, .mov (.c (.int .i64 0))⟩]
@[simp] def c_pair_Torn : IFn := ⟨(.seq (.reg c_pair_Torn_r0) (.seq (.seq (.reg c_pair_Torn_r1) (.cond (.t 23) (.seq (.reg c_pair_Torn_r2) .ret) .skip)) (.seq (.regd c_pair_Torn_r3 []) .ret))), 31, [.tmp 6, .tmp 7]⟩

theorem fc_pair_Torn : fnAt Try.prog f_pair_Torn = some c_pair_Torn := by kernel_rfl
@[simp] def c_law5_awake_r0 : List Ir := [⟨(some 0), none, .mov (.c (.bool false))⟩]
@[simp] def c_law5_awake_r1 : List Ir := [⟨(some 14), none, .build [(.int .i64 0), (.int .i64 0)] [(0, (1, (.c (.int .i64 1)))), (1, (1, (.c (.int .i64 258))))]⟩,
  ⟨(some 15), none, .call f_head_Put [(.t 14)]⟩,
  ⟨(some 13), none, .mov (.t 15)⟩,
  ⟨(some 16), none, .ext 0 (.t 13)⟩,
  ⟨(some 17), none, .ext 1 (.t 13)⟩,
  ⟨(some 1), none, .mov (.t 16)⟩,
  ⟨(some 2), none, .mov (.t 17)⟩]
@[simp] def c_law5_awake_r2 : List Ir := [⟨(some 19), none, .mov (.t 1)⟩,
  ⟨(some 20), none, .call f_head_Get [(.t 19)]⟩,
  ⟨(some 18), none, .mov (.t 20)⟩,
  ⟨(some 21), none, .ext 0 (.t 18)⟩,
  ⟨(some 22), none, .ext 1 (.t 18)⟩,
  ⟨(some 3), none, .new [(.int .i64 0), (.int .i64 0)]⟩,
  ⟨none, none, .st 2 (.t 3) (.t 21)⟩,
  ⟨(some 4), none, .mov (.t 22)⟩]
@[simp] def c_law5_awake_r3 : List Ir := [⟨(some 24), none, .mov (.t 1)⟩,
  ⟨(some 25), none, .call f_ref1_PutPair [(.t 24)]⟩,
  ⟨(some 23), none, .mov (.t 25)⟩,
  ⟨(some 26), none, .ext 0 (.t 23)⟩,
  ⟨(some 27), none, .ext 1 (.t 23)⟩,
  ⟨(some 5), none, .mov (.t 26)⟩,
  ⟨(some 6), none, .mov (.t 27)⟩]
@[simp] def c_law5_awake_r4 : List Ir := [⟨(some 29), none, .mov (.t 5)⟩,
  ⟨(some 30), none, .call f_head_Best [(.c (.string ⟨#[]⟩)), (.t 29)]⟩,
  ⟨(some 28), none, .mov (.t 30)⟩,
  ⟨(some 31), none, .ext 0 (.t 28)⟩,
  ⟨(some 32), none, .ext 1 (.t 28)⟩,
  ⟨(some 7), none, .new [(.int .i64 0), (.int .i64 0)]⟩,
  ⟨none, none, .st 2 (.t 7) (.t 31)⟩,
  ⟨(some 8), none, .mov (.t 32)⟩]
@[simp] def c_law5_awake_r5 : List Ir := [⟨(some 34), none, .call f_head_Best [(.c (.string ⟨#[]⟩)), (.c (.string ⟨#[]⟩))]⟩,
  ⟨(some 33), none, .mov (.t 34)⟩,
  ⟨(some 35), none, .ext 0 (.t 33)⟩,
  ⟨(some 36), none, .ext 1 (.t 33)⟩,
  ⟨(some 9), none, .new [(.int .i64 0), (.int .i64 0)]⟩,
  ⟨none, none, .st 2 (.t 9) (.t 35)⟩,
  ⟨(some 10), none, .mov (.t 36)⟩]
@[simp] def c_law5_awake_r6 : List Ir := [⟨(some 38), none, .build [(.int .i64 0), (.int .i64 0)] []⟩,
  ⟨(some 39), none, .call f_head_Put [(.t 38)]⟩,
  ⟨(some 37), none, .mov (.t 39)⟩,
  ⟨(some 40), none, .ext 0 (.t 37)⟩,
  ⟨(some 41), none, .ext 1 (.t 37)⟩,
  ⟨(some 11), none, .mov (.t 40)⟩,
  ⟨(some 12), none, .mov (.t 41)⟩]
@[simp] def c_law5_awake_r7 : List Ir := [⟨(some 42), none, .mov (.t 1)⟩,
  ⟨(some 43), none, .lenS (.t 42)⟩,
  ⟨(some 44), none, .bin .neq 3 (.t 43) (.c (.int .i64 32))⟩]
@[simp] def c_law5_awake_r8 : List Ir := [⟨(some 0), none, .mov (.c (.bool false))⟩]
@[simp] def c_law5_awake_r9 : List Ir := [⟨(some 45), none, .mov (.t 1)⟩,
  ⟨(some 46), none, .sls (.t 45) none (some (.c (.int .i64 12)))⟩,
  ⟨(some 47), none, .bin .eql 9 (.t 46) (.c (.string ⟨#[99, 114, 121, 111, 0, 0, 0, 1, 0, 0, 1, 2]⟩))⟩,
  ⟨(some 48), none, .mov (.t 47)⟩,
  ⟨(some 49), (some (48, true)), .mov (.t 2)⟩,
  ⟨(some 50), (some (48, true)), .call f_law0_Num [(.t 49)]⟩,
  ⟨(some 51), (some (48, true)), .bin .eql 3 (.t 50) (.c (.int .i64 0))⟩,
  ⟨(some 52), none, .pick (.t 48) (.t 51) (.c (.bool false))⟩,
  ⟨(some 53), none, .mov (.t 52)⟩,
  ⟨(some 54), (some (53, true)), .ldn 2 (.t 3)⟩,
  ⟨(some 55), (some (53, true)), .build [(.int .i64 0), (.int .i64 0)] [(0, (1, (.c (.int .i64 1)))), (1, (1, (.c (.int .i64 258))))]⟩,
  ⟨(some 56), (some (53, true)), .eqa false [.num .i64, .num .i64] (.t 54) (.t 55)⟩,
  ⟨(some 57), none, .pick (.t 53) (.t 56) (.c (.bool false))⟩,
  ⟨(some 58), none, .mov (.t 57)⟩,
  ⟨(some 59), (some (58, true)), .mov (.t 4)⟩,
  ⟨(some 60), (some (58, true)), .call f_law0_Num [(.t 59)]⟩,
  ⟨(some 61), (some (58, true)), .bin .eql 3 (.t 60) (.c (.int .i64 0))⟩,
  ⟨(some 62), none, .pick (.t 58) (.t 61) (.c (.bool false))⟩,
  ⟨(some 63), none, .mov (.t 62)⟩,
  ⟨(some 64), (some (63, true)), .ldn 2 (.t 7)⟩,
  ⟨(some 65), (some (63, true)), .ldn 2 (.t 3)⟩,
  ⟨(some 66), (some (63, true)), .eqa false [.num .i64, .num .i64] (.t 64) (.t 65)⟩,
  ⟨(some 67), none, .pick (.t 63) (.t 66) (.c (.bool false))⟩,
  ⟨(some 68), none, .mov (.t 67)⟩,
  ⟨(some 69), (some (68, true)), .mov (.t 8)⟩,
  ⟨(some 70), (some (68, true)), .call f_law0_Num [(.t 69)]⟩,
  ⟨(some 71), (some (68, true)), .bin .eql 3 (.t 70) (.c (.int .i64 0))⟩,
  ⟨(some 72), none, .pick (.t 68) (.t 71) (.c (.bool false))⟩,
  ⟨(some 73), none, .mov (.t 72)⟩,
  ⟨(some 74), (some (73, true)), .mov (.t 10)⟩,
  ⟨(some 75), (some (73, true)), .call f_law0_Num [(.t 74)]⟩,
  ⟨(some 76), (some (73, true)), .bin .eql 3 (.t 75) (.c (.int .i64 501))⟩,
  ⟨(some 77), none, .pick (.t 73) (.t 76) (.c (.bool false))⟩,
  ⟨(some 78), none, .mov (.t 77)⟩,
  ⟨(some 79), (some (78, true)), .mov (.t 12)⟩,
  ⟨(some 80), (some (78, true)), .call f_law0_Num [(.t 79)]⟩,
  ⟨(some 81), (some (78, true)), .bin .eql 3 (.t 80) (.c (.int .i64 500))⟩,
  ⟨(some 82), none, .pick (.t 78) (.t 81) (.c (.bool false))⟩,
  ⟨(some 83), none, .mov (.t 82)⟩,
  ⟨(some 84), (some (83, true)), .ldn 2 (.t 3)⟩,
  ⟨(some 85), (some (83, true)), .call f_head_May [(.t 84)]⟩,
  ⟨(some 86), none, .pick (.t 83) (.t 85) (.c (.bool false))⟩,
  ⟨(some 0), none, .mov (.t 86)⟩]
@[simp] def c_law5_awake : IFn := ⟨(.seq (.reg c_law5_awake_r0) (.seq (.reg c_law5_awake_r1) (.seq (.reg c_law5_awake_r2) (.seq (.reg c_law5_awake_r3) (.seq (.reg c_law5_awake_r4) (.seq (.reg c_law5_awake_r5) (.seq (.reg c_law5_awake_r6) (.seq (.seq (.reg c_law5_awake_r7) (.cond (.t 44) (.seq (.reg c_law5_awake_r8) .ret) .skip)) (.seq (.reg c_law5_awake_r9) .ret))))))))), 87, [.tmp 0]⟩

theorem fc_law5_awake : fnAt Try.prog f_law5_awake = some c_law5_awake := by kernel_rfl
@[simp] def c_head_Put_r0 : List Ir := [⟨(some 1), none, .box 2 (.t 0)⟩,
  ⟨(some 2), none, .mov (.c (.string ⟨#[]⟩))⟩,
  ⟨(some 3), none, .mov (.c (.int .i64 0))⟩]
@[simp] def c_head_Put_r1 : List Ir := [⟨(some 4), none, .ldn 2 (.t 1)⟩,
  ⟨(some 5), none, .call f_head_May [(.t 4)]⟩,
  ⟨(some 6), none, .un .not (.t 5)⟩]
@[simp] def c_head_Put_r2 : List Ir := [⟨(some 2), none, .mov (.c (.string ⟨#[]⟩))⟩,
  ⟨(some 3), none, .mov (.c (.int .i64 500))⟩]
@[simp] def c_head_Put_r3 : List Ir := [⟨(some 7), none, .fadr 0 (.t 1)⟩,
  ⟨(some 8), none, .ld (.t 7)⟩,
  ⟨(some 11), none, .fadr 1 (.t 1)⟩,
  ⟨(some 12), none, .ld (.t 11)⟩,
  ⟨(some 9), none, .call f_record_Four [(.t 8)]⟩,
  ⟨(some 10), none, .bin .add 9 (.c (.string ⟨#[99, 114, 121, 111]⟩)) (.t 9)⟩,
  ⟨(some 13), none, .call f_record_Four [(.t 12)]⟩,
  ⟨(some 14), none, .bin .add 9 (.t 10) (.t 13)⟩,
  ⟨(some 15), none, .call f_record_Fill [(.t 14)]⟩,
  ⟨(some 2), none, .mov (.t 15)⟩,
  ⟨(some 3), none, .mov (.c (.int .i64 0))⟩]
@[simp] def c_head_Put : IFn := ⟨(.seq (.reg c_head_Put_r0) (.seq (.seq (.reg c_head_Put_r1) (.cond (.t 6) (.seq (.reg c_head_Put_r2) .ret) .skip)) (.seq (.regd c_head_Put_r3 [(3, 4)]) .ret))), 16, [.tmp 2, .tmp 3]⟩

theorem fc_head_Put : fnAt Try.prog f_head_Put = some c_head_Put := by kernel_rfl
@[simp] def c_ref1_PutPair_r0 : List Ir := [⟨(some 2), none, .mov (.c (.string ⟨#[]⟩))⟩,
  ⟨(some 3), none, .mov (.c (.int .i64 0))⟩]
@[simp] def c_ref1_PutPair_r1 : List Ir := [⟨(some 6), none, .mov (.t 0)⟩,
  ⟨(some 7), none, .lenS (.t 6)⟩,
  ⟨(some 8), none, .bin .neq 3 (.t 7) (.c (.int .i64 32))⟩]
@[simp] def c_ref1_PutPair_r2 : List Ir := [⟨(some 2), none, .mov (.c (.string ⟨#[]⟩))⟩,
  ⟨(some 3), none, .mov (.c (.int .i64 100))⟩]
@[simp] def c_ref1_PutPair_r3 : List Ir := [⟨(some 9), none, .mov (.t 0)⟩,
  ⟨(some 10), none, .s2b (.t 9)⟩,
  ⟨(some 4), none, .mov (.t 10)⟩]
@[simp] def c_ref1_PutPair_r4 : List Ir := [⟨(some 5), none, .mov (.c (.int .i64 0))⟩]
@[simp] def c_ref1_PutPair_r5 : List Ir := [⟨(some 11), none, .mov (.t 5)⟩,
  ⟨(some 12), none, .bin .lss 3 (.t 11) (.c (.int .i64 32))⟩]
@[simp] def c_ref1_PutPair_r6 : List Ir := [⟨(some 15), none, .mov (.t 4)⟩,
  ⟨(some 16), none, .mov (.t 0)⟩,
  ⟨(some 17), none, .mov (.t 5)⟩,
  ⟨(some 18), none, .idxS (.t 16) (.t 17)⟩,
  ⟨(some 19), none, .bin .sub 5 (.c (.int .u8 255)) (.t 18)⟩,
  ⟨(some 20), none, .mkrow 1 1 [(.int .u8 0)] [(0, (1, (.t 19)))]⟩,
  ⟨(some 21), none, .app 1 1 (.t 15) (.t 20)⟩,
  ⟨(some 4), none, .mov (.t 21)⟩]
@[simp] def c_ref1_PutPair_r7 : List Ir := [⟨(some 13), none, .mov (.t 5)⟩,
  ⟨(some 14), none, .bin .add 3 (.t 13) (.c (.int .i64 1))⟩,
  ⟨(some 5), none, .mov (.t 14)⟩]
def c_ref1_PutPair_l8 : IC := (.seq (.seq (.reg c_ref1_PutPair_r5) (.cond (.t 12) .skip (.exit 0))) (.seq (.block 1 (.reg c_ref1_PutPair_r6)) (.reg c_ref1_PutPair_r7)))
@[simp] def c_ref1_PutPair_r9 : List Ir := [⟨(some 22), none, .mov (.t 4)⟩,
  ⟨(some 23), none, .b2s (.t 22)⟩,
  ⟨(some 2), none, .mov (.t 23)⟩,
  ⟨(some 3), none, .mov (.c (.int .i64 0))⟩]
@[simp] def c_ref1_PutPair : IFn := ⟨(.seq (.reg c_ref1_PutPair_r0) (.seq (.seq (.reg c_ref1_PutPair_r1) (.cond (.t 8) (.seq (.reg c_ref1_PutPair_r2) .ret) .skip)) (.seq (.reg c_ref1_PutPair_r3) (.seq (.seq (.reg c_ref1_PutPair_r4) (.block 0 (.loop c_ref1_PutPair_l8))) (.seq (.reg c_ref1_PutPair_r9) .ret))))), 24, [.tmp 2, .tmp 3]⟩

theorem fc_ref1_PutPair : fnAt Try.prog f_ref1_PutPair = some c_ref1_PutPair := by kernel_rfl
@[simp] def c_head_Best_r0 : List Ir := [⟨(some 4), none, .new [(.int .i64 0), (.int .i64 0)]⟩,
  ⟨(some 5), none, .mov (.c (.int .i64 0))⟩]
@[simp] def c_head_Best_r1 : List Ir := [⟨(some 11), none, .mov (.t 0)⟩,
  ⟨(some 12), none, .call f_head_of [(.t 11)]⟩,
  ⟨(some 10), none, .mov (.t 12)⟩,
  ⟨(some 13), none, .ext 0 (.t 10)⟩,
  ⟨(some 14), none, .ext 1 (.t 10)⟩,
  ⟨(some 6), none, .new [(.int .i64 0), (.int .i64 0)]⟩,
  ⟨none, none, .st 2 (.t 6) (.t 13)⟩,
  ⟨(some 7), none, .mov (.t 14)⟩]
@[simp] def c_head_Best_r2 : List Ir := [⟨(some 16), none, .mov (.t 1)⟩,
  ⟨(some 17), none, .call f_head_of [(.t 16)]⟩,
  ⟨(some 15), none, .mov (.t 17)⟩,
  ⟨(some 18), none, .ext 0 (.t 15)⟩,
  ⟨(some 19), none, .ext 1 (.t 15)⟩,
  ⟨(some 8), none, .new [(.int .i64 0), (.int .i64 0)]⟩,
  ⟨none, none, .st 2 (.t 8) (.t 18)⟩,
  ⟨(some 9), none, .mov (.t 19)⟩]
@[simp] def c_head_Best_r3 : List Ir := [⟨(some 21), none, .mov (.t 7)⟩,
  ⟨(some 22), none, .mov (.t 21)⟩,
  ⟨(some 23), (some (22, true)), .mov (.t 9)⟩,
  ⟨(some 24), (some (22, true)), .un .not (.t 23)⟩,
  ⟨(some 25), (some (22, true)), .mov (.t 24)⟩,
  ⟨(some 26), (some (25, false)), .fadr 0 (.t 6)⟩,
  ⟨(some 27), (some (25, false)), .ld (.t 26)⟩,
  ⟨(some 28), (some (25, false)), .fadr 0 (.t 8)⟩,
  ⟨(some 29), (some (25, false)), .ld (.t 28)⟩,
  ⟨(some 30), (some (25, false)), .bin .geq 3 (.t 27) (.t 29)⟩,
  ⟨(some 31), (some (22, true)), .pick (.t 25) (.c (.bool true)) (.t 30)⟩,
  ⟨(some 32), none, .pick (.t 22) (.t 31) (.c (.bool false))⟩,
  ⟨(some 20), none, .mov (.t 32)⟩]
@[simp] def c_head_Best_r4 : List Ir := [⟨(some 33), none, .ldn 2 (.t 6)⟩,
  ⟨none, none, .st 2 (.t 4) (.t 33)⟩,
  ⟨(some 5), none, .mov (.c (.int .i64 0))⟩]
@[simp] def c_head_Best_r5 : List Ir := [⟨(some 35), none, .mov (.t 9)⟩,
  ⟨(some 34), none, .mov (.t 35)⟩]
@[simp] def c_head_Best_r6 : List Ir := [⟨(some 36), none, .ldn 2 (.t 8)⟩,
  ⟨none, none, .st 2 (.t 4) (.t 36)⟩,
  ⟨(some 5), none, .mov (.c (.int .i64 0))⟩]
@[simp] def c_head_Best_r7 : List Ir := [⟨(some 37), none, .build [(.int .i64 0), (.int .i64 0)] []⟩,
  ⟨none, none, .st 2 (.t 4) (.t 37)⟩,
  ⟨(some 5), none, .mov (.c (.int .i64 501))⟩]
@[simp] def c_head_Best : IFn := ⟨(.seq (.reg c_head_Best_r0) (.seq (.reg c_head_Best_r1) (.seq (.reg c_head_Best_r2) (.seq (.block 0 (.seq (.reg c_head_Best_r3) (.cond (.t 20) (.seq (.reg c_head_Best_r4) .ret) (.seq (.reg c_head_Best_r5) (.cond (.t 34) (.seq (.reg c_head_Best_r6) .ret) .skip))))) (.seq (.reg c_head_Best_r7) .ret))))), 38, [.ldn 4 2, .tmp 5]⟩

theorem fc_head_Best : fnAt Try.prog f_head_Best = some c_head_Best := by kernel_rfl
@[simp] def c_disk_has_r0 : List Ir := [⟨(some 2), none, .mov (.c (.bool false))⟩]
@[simp] def c_disk_has_r1 : List Ir := [⟨(some 3), none, .mov (.t 0)⟩,
  ⟨(some 4), none, .bin .geq 3 (.t 3) (.c (.int .i64 0))⟩,
  ⟨(some 5), none, .mov (.t 4)⟩,
  ⟨(some 6), (some (5, true)), .mov (.t 0)⟩,
  ⟨(some 7), (some (5, true)), .bin .lss 3 (.t 6) (.c (.int .i64 394))⟩,
  ⟨(some 8), none, .pick (.t 5) (.t 7) (.c (.bool false))⟩,
  ⟨(some 2), none, .mov (.t 8)⟩]
@[simp] def c_disk_has : IFn := ⟨(.seq (.reg c_disk_has_r0) (.seq (.reg c_disk_has_r1) .ret)), 9, [.tmp 2]⟩

theorem fc_disk_has : fnAt Try.prog f_disk_has = some c_disk_has := by kernel_rfl
@[simp] def c_ref1_read_r0 : List Ir := [⟨(some 2), none, .box 2 (.t 0)⟩,
  ⟨(some 4), none, .mov (.c (.string ⟨#[]⟩))⟩]
@[simp] def c_ref1_read_r1 : List Ir := [⟨(some 6), none, .fadr 1 (.t 2)⟩,
  ⟨(some 7), none, .ld (.t 6)⟩,
  ⟨(some 8), none, .lenV (.t 7)⟩,
  ⟨(some 9), none, .bin .sub 3 (.t 8) (.c (.int .i64 1))⟩,
  ⟨(some 5), none, .mov (.t 9)⟩]
@[simp] def c_ref1_read_r2 : List Ir := [⟨(some 10), none, .mov (.t 5)⟩,
  ⟨(some 11), none, .bin .geq 3 (.t 10) (.c (.int .i64 0))⟩]
@[simp] def c_ref1_read_r3 : List Ir := [⟨(some 14), none, .fadr 1 (.t 2)⟩,
  ⟨(some 15), none, .ld (.t 14)⟩,
  ⟨(some 16), none, .mov (.t 5)⟩,
  ⟨(some 17), none, .iadrS 2 (.t 15) (.t 16)⟩,
  ⟨(some 18), none, .fadr 0 (.t 17)⟩,
  ⟨(some 19), none, .ld (.t 18)⟩,
  ⟨(some 20), none, .mov (.t 1)⟩,
  ⟨(some 21), none, .bin .eql 3 (.t 19) (.t 20)⟩]
@[simp] def c_ref1_read_r4 : List Ir := [⟨(some 22), none, .fadr 1 (.t 2)⟩,
  ⟨(some 23), none, .ld (.t 22)⟩,
  ⟨(some 24), none, .mov (.t 5)⟩,
  ⟨(some 25), none, .iadrS 2 (.t 23) (.t 24)⟩,
  ⟨(some 26), none, .fadr 1 (.t 25)⟩,
  ⟨(some 27), none, .ld (.t 26)⟩,
  ⟨(some 4), none, .mov (.t 27)⟩]
@[simp] def c_ref1_read_r5 : List Ir := [⟨(some 12), none, .mov (.t 5)⟩,
  ⟨(some 13), none, .bin .sub 3 (.t 12) (.c (.int .i64 1))⟩,
  ⟨(some 5), none, .mov (.t 13)⟩]
def c_ref1_read_l6 : IC := (.seq (.seq (.reg c_ref1_read_r2) (.cond (.t 11) .skip (.exit 0))) (.seq (.block 1 (.seq (.reg c_ref1_read_r3) (.cond (.t 21) (.seq (.reg c_ref1_read_r4) .ret) .skip))) (.reg c_ref1_read_r5)))
@[simp] def c_ref1_read_r7 : List Ir := [⟨(some 28), none, .fadr 0 (.t 2)⟩,
  ⟨(some 29), none, .ld (.t 28)⟩,
  ⟨(some 30), none, .mov (.t 1)⟩,
  ⟨(some 31), none, .iadrS 1 (.t 29) (.t 30)⟩,
  ⟨(some 32), none, .ld (.t 31)⟩,
  ⟨(some 4), none, .mov (.t 32)⟩]
@[simp] def c_ref1_read : IFn := ⟨(.seq (.reg c_ref1_read_r0) (.seq (.seq (.reg c_ref1_read_r1) (.block 0 (.loop c_ref1_read_l6))) (.seq (.reg c_ref1_read_r7) .ret))), 33, [.tmp 4]⟩

theorem fc_ref1_read : fnAt Try.prog f_ref1_read = some c_ref1_read := by kernel_rfl
@[simp] def c_disk_may_r0 : List Ir := [⟨(some 1), none, .box 2 (.t 0)⟩,
  ⟨(some 2), none, .mov (.c (.bool false))⟩]
@[simp] def c_disk_may_r1 : List Ir := [⟨(some 3), none, .fadr 0 (.t 1)⟩,
  ⟨(some 4), none, .ld (.t 3)⟩,
  ⟨(some 5), none, .call f_disk_has [(.t 4)]⟩,
  ⟨(some 6), none, .mov (.t 5)⟩,
  ⟨(some 7), (some (6, true)), .fadr 1 (.t 1)⟩,
  ⟨(some 8), (some (6, true)), .ld (.t 7)⟩,
  ⟨(some 9), (some (6, true)), .lenS (.t 8)⟩,
  ⟨(some 10), (some (6, true)), .bin .eql 3 (.t 9) (.c (.int .i64 64))⟩,
  ⟨(some 11), none, .pick (.t 6) (.t 10) (.c (.bool false))⟩,
  ⟨(some 2), none, .mov (.t 11)⟩]
@[simp] def c_disk_may : IFn := ⟨(.seq (.reg c_disk_may_r0) (.seq (.reg c_disk_may_r1) .ret)), 12, [.tmp 2]⟩

theorem fc_disk_may : fnAt Try.prog f_disk_may = some c_disk_may := by kernel_rfl
@[simp] def c_slices_Clone_string_string_r0 : List Ir := [⟨(some 2), none, .mov (.c (.slice none 0 0))⟩]
@[simp] def c_slices_Clone_string_string_r1 : List Ir := [⟨(some 3), none, .mov (.t 0)⟩,
  ⟨(some 4), none, .bin .eql 22 (.t 3) (.c (.slice none 0 0))⟩]
@[simp] def c_slices_Clone_string_string_r2 : List Ir := [⟨(some 2), none, .mov (.c (.slice none 0 0))⟩]
@[simp] def c_slices_Clone_string_string_r3 : List Ir := [⟨(some 5), none, .mkrow 1 0 [] []⟩,
  ⟨(some 6), none, .mov (.t 0)⟩,
  ⟨(some 7), none, .app 1 16 (.t 5) (.t 6)⟩,
  ⟨(some 2), none, .mov (.t 7)⟩]
@[simp] def c_slices_Clone_string_string : IFn := ⟨(.seq (.reg c_slices_Clone_string_string_r0) (.seq (.seq (.reg c_slices_Clone_string_string_r1) (.cond (.t 4) (.seq (.reg c_slices_Clone_string_string_r2) .ret) .skip)) (.seq (.reg c_slices_Clone_string_string_r3) .ret))), 8, [.tmp 2]⟩

theorem fc_slices_Clone_string_string : fnAt Try.prog f_slices_Clone_string_string = some c_slices_Clone_string_string := by kernel_rfl
@[simp] def c_slices_Clone_Write_r0 : List Ir := [⟨(some 2), none, .mov (.c (.slice none 0 0))⟩]
@[simp] def c_slices_Clone_Write_r1 : List Ir := [⟨(some 3), none, .mov (.t 0)⟩,
  ⟨(some 4), none, .bin .eql 23 (.t 3) (.c (.slice none 0 0))⟩]
@[simp] def c_slices_Clone_Write_r2 : List Ir := [⟨(some 2), none, .mov (.c (.slice none 0 0))⟩]
@[simp] def c_slices_Clone_Write_r3 : List Ir := [⟨(some 5), none, .mkrow 2 0 [] []⟩,
  ⟨(some 6), none, .mov (.t 0)⟩,
  ⟨(some 7), none, .app 2 24 (.t 5) (.t 6)⟩,
  ⟨(some 2), none, .mov (.t 7)⟩]
@[simp] def c_slices_Clone_Write : IFn := ⟨(.seq (.reg c_slices_Clone_Write_r0) (.seq (.seq (.reg c_slices_Clone_Write_r1) (.cond (.t 4) (.seq (.reg c_slices_Clone_Write_r2) .ret) .skip)) (.seq (.reg c_slices_Clone_Write_r3) .ret))), 8, [.tmp 2]⟩

theorem fc_slices_Clone_Write : fnAt Try.prog f_slices_Clone_Write = some c_slices_Clone_Write := by kernel_rfl
@[simp] def c_ref1_writeMay_r0 : List Ir := [⟨(some 1), none, .box 2 (.t 0)⟩,
  ⟨(some 2), none, .mov (.c (.bool false))⟩]
@[simp] def c_ref1_writeMay_r1 : List Ir := [⟨(some 3), none, .fadr 0 (.t 1)⟩,
  ⟨(some 4), none, .ld (.t 3)⟩,
  ⟨(some 5), none, .bin .geq 3 (.t 4) (.c (.int .i64 0))⟩,
  ⟨(some 6), none, .mov (.t 5)⟩,
  ⟨(some 7), (some (6, true)), .fadr 0 (.t 1)⟩,
  ⟨(some 8), (some (6, true)), .ld (.t 7)⟩,
  ⟨(some 9), (some (6, true)), .bin .lss 3 (.t 8) (.c (.int .i64 394))⟩,
  ⟨(some 10), none, .pick (.t 6) (.t 9) (.c (.bool false))⟩,
  ⟨(some 11), none, .mov (.t 10)⟩,
  ⟨(some 12), (some (11, true)), .fadr 1 (.t 1)⟩,
  ⟨(some 13), (some (11, true)), .ld (.t 12)⟩,
  ⟨(some 14), (some (11, true)), .lenS (.t 13)⟩,
  ⟨(some 15), (some (11, true)), .bin .eql 3 (.t 14) (.c (.int .i64 64))⟩,
  ⟨(some 16), none, .pick (.t 11) (.t 15) (.c (.bool false))⟩,
  ⟨(some 2), none, .mov (.t 16)⟩]
@[simp] def c_ref1_writeMay : IFn := ⟨(.seq (.reg c_ref1_writeMay_r0) (.seq (.reg c_ref1_writeMay_r1) .ret)), 17, [.tmp 2]⟩

theorem fc_ref1_writeMay : fnAt Try.prog f_ref1_writeMay = some c_ref1_writeMay := by kernel_rfl
@[simp] def c_ref1_CopyDisk_r0 : List Ir := [⟨(some 1), none, .box 2 (.t 0)⟩,
  ⟨(some 2), none, .new [(.slice none 0 0), (.slice none 0 0)]⟩]
@[simp] def c_ref1_CopyDisk_r1 : List Ir := [⟨(some 3), none, .mkrow 1 0 [] []⟩,
  ⟨(some 4), none, .fadr 0 (.t 1)⟩,
  ⟨(some 5), none, .ld (.t 4)⟩,
  ⟨(some 7), none, .mkrow 2 0 [] []⟩,
  ⟨(some 8), none, .fadr 1 (.t 1)⟩,
  ⟨(some 9), none, .ld (.t 8)⟩,
  ⟨(some 6), none, .app 1 16 (.t 3) (.t 5)⟩,
  ⟨(some 10), none, .app 2 24 (.t 7) (.t 9)⟩,
  ⟨(some 11), none, .build [(.slice none 0 0), (.slice none 0 0)] [(0, (1, (.t 6))), (1, (1, (.t 10)))]⟩,
  ⟨none, none, .st 2 (.t 2) (.t 11)⟩]
@[simp] def c_ref1_CopyDisk : IFn := ⟨(.seq (.reg c_ref1_CopyDisk_r0) (.seq (.regd c_ref1_CopyDisk_r1 [(5, 6)]) .ret)), 12, [.ldn 2 2]⟩

theorem fc_ref1_CopyDisk : fnAt Try.prog f_ref1_CopyDisk = some c_ref1_CopyDisk := by kernel_rfl
@[simp] def c_ref1_Torn_r0 : List Ir := [⟨(some 6), none, .mov (.c (.string ⟨#[]⟩))⟩,
  ⟨(some 7), none, .mov (.c (.int .i64 0))⟩]
@[simp] def c_ref1_Torn_r1 : List Ir := [⟨(some 8), none, .mov (.t 0)⟩,
  ⟨(some 9), none, .lenS (.t 8)⟩,
  ⟨(some 10), none, .bin .neq 3 (.t 9) (.c (.int .i64 64))⟩,
  ⟨(some 11), none, .mov (.t 10)⟩,
  ⟨(some 12), (some (11, false)), .mov (.t 1)⟩,
  ⟨(some 13), (some (11, false)), .lenS (.t 12)⟩,
  ⟨(some 14), (some (11, false)), .bin .neq 3 (.t 13) (.c (.int .i64 64))⟩,
  ⟨(some 15), none, .pick (.t 11) (.c (.bool true)) (.t 14)⟩,
  ⟨(some 16), none, .mov (.t 15)⟩,
  ⟨(some 17), (some (16, false)), .mov (.t 2)⟩,
  ⟨(some 18), (some (16, false)), .bin .lss 3 (.t 17) (.c (.int .i64 0))⟩,
  ⟨(some 19), none, .pick (.t 16) (.c (.bool true)) (.t 18)⟩,
  ⟨(some 20), none, .mov (.t 19)⟩,
  ⟨(some 21), (some (20, false)), .mov (.t 2)⟩,
  ⟨(some 22), (some (20, false)), .bin .gtr 3 (.t 21) (.c (.int .i64 64))⟩,
  ⟨(some 23), none, .pick (.t 20) (.c (.bool true)) (.t 22)⟩]
@[simp] def c_ref1_Torn_r2 : List Ir := [⟨(some 6), none, .mov (.c (.string ⟨#[]⟩))⟩,
  ⟨(some 7), none, .mov (.c (.int .i64 100))⟩]
@[simp] def c_ref1_Torn_r3 : List Ir := [⟨(some 24), none, .mov (.t 1)⟩,
  ⟨(some 25), none, .mov (.t 2)⟩,
  ⟨(some 26), none, .sls (.t 24) none (some (.t 25))⟩,
  ⟨(some 27), none, .mov (.t 0)⟩,
  ⟨(some 28), none, .mov (.t 2)⟩,
  ⟨(some 29), none, .sls (.t 27) (some (.t 28)) none⟩,
  ⟨(some 30), none, .bin .add 9 (.t 26) (.t 29)⟩,
  ⟨(some 6), none, .mov (.t 30)⟩,
  ⟨(some 7), none, .mov (.c (.int .i64 0))⟩]
@[simp] def c_ref1_Torn : IFn := ⟨(.seq (.reg c_ref1_Torn_r0) (.seq (.seq (.reg c_ref1_Torn_r1) (.cond (.t 23) (.seq (.reg c_ref1_Torn_r2) .ret) .skip)) (.seq (.regd c_ref1_Torn_r3 []) .ret))), 31, [.tmp 6, .tmp 7]⟩

theorem fc_ref1_Torn : fnAt Try.prog f_ref1_Torn = some c_ref1_Torn := by kernel_rfl
@[simp] def c_law0_SameWrites_r0 : List Ir := [⟨(some 4), none, .mov (.c (.bool false))⟩]
@[simp] def c_law0_SameWrites_r1 : List Ir := [⟨(some 6), none, .mov (.t 0)⟩,
  ⟨(some 7), none, .lenV (.t 6)⟩,
  ⟨(some 8), none, .mov (.t 1)⟩,
  ⟨(some 9), none, .lenV (.t 8)⟩,
  ⟨(some 10), none, .bin .neq 3 (.t 7) (.t 9)⟩]
@[simp] def c_law0_SameWrites_r2 : List Ir := [⟨(some 4), none, .mov (.c (.bool false))⟩]
@[simp] def c_law0_SameWrites_r3 : List Ir := [⟨(some 5), none, .mov (.c (.int .i64 0))⟩]
@[simp] def c_law0_SameWrites_r4 : List Ir := [⟨(some 11), none, .mov (.t 5)⟩,
  ⟨(some 12), none, .mov (.t 0)⟩,
  ⟨(some 13), none, .lenV (.t 12)⟩,
  ⟨(some 14), none, .bin .lss 3 (.t 11) (.t 13)⟩]
@[simp] def c_law0_SameWrites_r5 : List Ir := [⟨(some 17), none, .mov (.t 0)⟩,
  ⟨(some 18), none, .mov (.t 5)⟩,
  ⟨(some 19), none, .iadrS 2 (.t 17) (.t 18)⟩,
  ⟨(some 20), none, .ldn 2 (.t 19)⟩,
  ⟨(some 21), none, .mov (.t 1)⟩,
  ⟨(some 22), none, .mov (.t 5)⟩,
  ⟨(some 23), none, .iadrS 2 (.t 21) (.t 22)⟩,
  ⟨(some 24), none, .ldn 2 (.t 23)⟩,
  ⟨(some 25), none, .eqa true [.num .i64, .txt] (.t 20) (.t 24)⟩]
@[simp] def c_law0_SameWrites_r6 : List Ir := [⟨(some 4), none, .mov (.c (.bool false))⟩]
@[simp] def c_law0_SameWrites_r7 : List Ir := [⟨(some 15), none, .mov (.t 5)⟩,
  ⟨(some 16), none, .bin .add 3 (.t 15) (.c (.int .i64 1))⟩,
  ⟨(some 5), none, .mov (.t 16)⟩]
def c_law0_SameWrites_l8 : IC := (.seq (.seq (.reg c_law0_SameWrites_r4) (.cond (.t 14) .skip (.exit 0))) (.seq (.block 1 (.seq (.regd c_law0_SameWrites_r5 []) (.cond (.t 25) (.seq (.reg c_law0_SameWrites_r6) .ret) .skip))) (.reg c_law0_SameWrites_r7)))
@[simp] def c_law0_SameWrites_r9 : List Ir := [⟨(some 4), none, .mov (.c (.bool true))⟩]
@[simp] def c_law0_SameWrites : IFn := ⟨(.seq (.reg c_law0_SameWrites_r0) (.seq (.seq (.reg c_law0_SameWrites_r1) (.cond (.t 10) (.seq (.reg c_law0_SameWrites_r2) .ret) .skip)) (.seq (.seq (.reg c_law0_SameWrites_r3) (.block 0 (.loop c_law0_SameWrites_l8))) (.seq (.reg c_law0_SameWrites_r9) .ret)))), 26, [.tmp 4]⟩

theorem fc_law0_SameWrites : fnAt Try.prog f_law0_SameWrites = some c_law0_SameWrites := by kernel_rfl
@[simp] def c_disk_May_1_r0 : List Ir := [⟨(some 2), none, .mov (.c (.bool false))⟩]
@[simp] def c_disk_May_1_r1 : List Ir := [⟨(some 3), none, .mov (.t 0)⟩,
  ⟨(some 4), none, .lenS (.t 3)⟩,
  ⟨(some 5), none, .bin .neq 3 (.t 4) (.c (.int .i64 64))⟩,
  ⟨(some 2), none, .mov (.t 5)⟩]
@[simp] def c_disk_May_1 : IFn := ⟨(.seq (.reg c_disk_May_1_r0) (.seq (.reg c_disk_May_1_r1) .ret)), 6, [.tmp 2]⟩

theorem fc_disk_May_1 : fnAt Try.prog f_disk_May_1 = some c_disk_May_1 := by kernel_rfl
@[simp] def c_disk_May_2_r0 : List Ir := [⟨(some 1), none, .box 2 (.t 0)⟩,
  ⟨(some 2), none, .mov (.c (.bool false))⟩]
@[simp] def c_disk_May_2_r1 : List Ir := [⟨(some 3), none, .ldn 2 (.t 1)⟩,
  ⟨(some 4), none, .call f_disk_may [(.t 3)]⟩,
  ⟨(some 5), none, .un .not (.t 4)⟩,
  ⟨(some 2), none, .mov (.t 5)⟩]
@[simp] def c_disk_May_2 : IFn := ⟨(.seq (.reg c_disk_May_2_r0) (.seq (.reg c_disk_May_2_r1) .ret)), 6, [.tmp 2]⟩

theorem fc_disk_May_2 : fnAt Try.prog f_disk_May_2 = some c_disk_May_2 := by kernel_rfl
@[simp] def c_slices_ContainsFunc_string_string_r0 : List Ir := [⟨(some 4), none, .mov (.c (.bool false))⟩]
@[simp] def c_slices_ContainsFunc_string_string_r1 : List Ir := [⟨(some 5), none, .mov (.t 0)⟩,
  ⟨(some 6), none, .mov (.t 1)⟩,
  ⟨(some 7), none, .call f_slices_IndexFunc_string_string [(.t 5), (.t 6)]⟩,
  ⟨(some 8), none, .bin .geq 3 (.t 7) (.c (.int .i64 0))⟩,
  ⟨(some 4), none, .mov (.t 8)⟩]
@[simp] def c_slices_ContainsFunc_string_string : IFn := ⟨(.seq (.reg c_slices_ContainsFunc_string_string_r0) (.seq (.reg c_slices_ContainsFunc_string_string_r1) .ret)), 9, [.tmp 4]⟩

theorem fc_slices_ContainsFunc_string_string : fnAt Try.prog f_slices_ContainsFunc_string_string = some c_slices_ContainsFunc_string_string := by kernel_rfl
@[simp] def c_slices_ContainsFunc_Write_r0 : List Ir := [⟨(some 4), none, .mov (.c (.bool false))⟩]
@[simp] def c_slices_ContainsFunc_Write_r1 : List Ir := [⟨(some 5), none, .mov (.t 0)⟩,
  ⟨(some 6), none, .mov (.t 1)⟩,
  ⟨(some 7), none, .call f_slices_IndexFunc_Write [(.t 5), (.t 6)]⟩,
  ⟨(some 8), none, .bin .geq 3 (.t 7) (.c (.int .i64 0))⟩,
  ⟨(some 4), none, .mov (.t 8)⟩]
@[simp] def c_slices_ContainsFunc_Write : IFn := ⟨(.seq (.reg c_slices_ContainsFunc_Write_r0) (.seq (.reg c_slices_ContainsFunc_Write_r1) .ret)), 9, [.tmp 4]⟩

theorem fc_slices_ContainsFunc_Write : fnAt Try.prog f_slices_ContainsFunc_Write = some c_slices_ContainsFunc_Write := by kernel_rfl
@[simp] def c_slices_Repeat_string_string_r0 : List Ir := [⟨(some 4), none, .mov (.c (.slice none 0 0))⟩]
@[simp] def c_slices_Repeat_string_string_r1 : List Ir := [⟨(some 9), none, .mov (.t 1)⟩,
  ⟨(some 10), none, .bin .lss 3 (.t 9) (.c (.int .i64 0))⟩]
@[simp] def c_slices_Repeat_string_string_r2 : List Ir := [⟨(some 11), none, .bad⟩,
  ⟨none, none, .bad⟩]
@[simp] def c_slices_Repeat_string_string_r3 : List Ir := [⟨(some 13), none, .mov (.t 0)⟩,
  ⟨(some 14), none, .lenV (.t 13)⟩,
  ⟨(some 15), none, .ii .u64 (.t 14)⟩,
  ⟨(some 16), none, .mov (.t 1)⟩,
  ⟨(some 17), none, .ii .u64 (.t 16)⟩,
  ⟨(some 18), none, .call f_math_bits_Mul [(.t 15), (.t 17)]⟩,
  ⟨(some 12), none, .mov (.t 18)⟩,
  ⟨(some 19), none, .ext 0 (.t 12)⟩,
  ⟨(some 20), none, .ext 1 (.t 12)⟩,
  ⟨(some 5), none, .mov (.t 19)⟩,
  ⟨(some 6), none, .mov (.t 20)⟩]
@[simp] def c_slices_Repeat_string_string_r4 : List Ir := [⟨(some 21), none, .mov (.t 5)⟩,
  ⟨(some 22), none, .bin .gtr 55 (.t 21) (.c (.int .u64 0))⟩,
  ⟨(some 23), none, .mov (.t 22)⟩,
  ⟨(some 24), (some (23, false)), .mov (.t 6)⟩,
  ⟨(some 25), (some (23, false)), .bin .gtr 55 (.t 24) (.c (.int .u64 9223372036854775807))⟩,
  ⟨(some 26), none, .pick (.t 23) (.c (.bool true)) (.t 25)⟩]
@[simp] def c_slices_Repeat_string_string_r5 : List Ir := [⟨(some 27), none, .bad⟩,
  ⟨none, none, .bad⟩]
@[simp] def c_slices_Repeat_string_string_r6 : List Ir := [⟨(some 28), none, .mov (.t 6)⟩,
  ⟨(some 29), none, .ii .i64 (.t 28)⟩,
  ⟨(some 30), none, .mks 1 16 [(.string ⟨#[]⟩)] (.t 29) (.t 29)⟩,
  ⟨(some 7), none, .mov (.t 30)⟩]
@[simp] def c_slices_Repeat_string_string_r7 : List Ir := [⟨(some 31), none, .mov (.t 7)⟩,
  ⟨(some 32), none, .mov (.t 0)⟩,
  ⟨(some 33), none, .copy 1 (.t 31) (.t 32)⟩,
  ⟨(some 8), none, .mov (.t 33)⟩]
@[simp] def c_slices_Repeat_string_string_r8 : List Ir := [⟨(some 34), none, .mov (.t 8)⟩,
  ⟨(some 35), none, .mov (.t 7)⟩,
  ⟨(some 36), none, .lenV (.t 35)⟩,
  ⟨(some 37), none, .bin .lss 3 (.t 34) (.t 36)⟩]
@[simp] def c_slices_Repeat_string_string_r9 : List Ir := [⟨(some 38), none, .mov (.t 8)⟩,
  ⟨(some 39), none, .mov (.t 7)⟩,
  ⟨(some 40), none, .mov (.t 8)⟩,
  ⟨(some 41), none, .slv 1 (.t 39) (some (.t 40)) none none⟩,
  ⟨(some 42), none, .mov (.t 7)⟩,
  ⟨(some 43), none, .mov (.t 8)⟩,
  ⟨(some 44), none, .slv 1 (.t 42) none (some (.t 43)) none⟩,
  ⟨(some 45), none, .copy 1 (.t 41) (.t 44)⟩,
  ⟨(some 46), none, .bin .add 3 (.t 38) (.t 45)⟩,
  ⟨(some 8), none, .mov (.t 46)⟩]
def c_slices_Repeat_string_string_l10 : IC := (.seq (.seq (.reg c_slices_Repeat_string_string_r8) (.cond (.t 37) .skip (.exit 0))) (.block 1 (.regd c_slices_Repeat_string_string_r9 [])))
@[simp] def c_slices_Repeat_string_string_r11 : List Ir := [⟨(some 47), none, .mov (.t 7)⟩,
  ⟨(some 4), none, .mov (.t 47)⟩]
@[simp] def c_slices_Repeat_string_string : IFn := ⟨(.seq (.reg c_slices_Repeat_string_string_r0) (.seq (.seq (.reg c_slices_Repeat_string_string_r1) (.cond (.t 10) (.reg c_slices_Repeat_string_string_r2) .skip)) (.seq (.reg c_slices_Repeat_string_string_r3) (.seq (.seq (.reg c_slices_Repeat_string_string_r4) (.cond (.t 26) (.reg c_slices_Repeat_string_string_r5) .skip)) (.seq (.reg c_slices_Repeat_string_string_r6) (.seq (.reg c_slices_Repeat_string_string_r7) (.seq (.block 0 (.loop c_slices_Repeat_string_string_l10)) (.seq (.reg c_slices_Repeat_string_string_r11) .ret)))))))), 48, [.tmp 4]⟩

theorem fc_slices_Repeat_string_string : fnAt Try.prog f_slices_Repeat_string_string = some c_slices_Repeat_string_string := by kernel_rfl
@[simp] def c_ref1_zeros_r0 : List Ir := [⟨(some 2), none, .mov (.c (.string ⟨#[]⟩))⟩]
@[simp] def c_ref1_zeros_r1 : List Ir := [⟨(some 3), none, .mov (.t 0)⟩,
  ⟨(some 4), none, .mks 1 1 [(.int .u8 0)] (.t 3) (.t 3)⟩,
  ⟨(some 5), none, .b2s (.t 4)⟩,
  ⟨(some 2), none, .mov (.t 5)⟩]
@[simp] def c_ref1_zeros : IFn := ⟨(.seq (.reg c_ref1_zeros_r0) (.seq (.reg c_ref1_zeros_r1) .ret)), 6, [.tmp 2]⟩

theorem fc_ref1_zeros : fnAt Try.prog f_ref1_zeros = some c_ref1_zeros := by kernel_rfl
@[simp] def c_plan_may_r0 : List Ir := [⟨(some 1), none, .box 5 (.t 0)⟩,
  ⟨(some 2), none, .mov (.c (.bool false))⟩]
@[simp] def c_plan_may_r1 : List Ir := [⟨(some 3), none, .ldn 5 (.t 1)⟩,
  ⟨(some 4), none, .call f_plan_May [(.t 3)]⟩,
  ⟨(some 5), none, .mov (.t 4)⟩,
  ⟨(some 6), (some (5, true)), .fadr 0 (.t 1)⟩,
  ⟨(some 7), (some (5, true)), .fadr 0 (.t 6)⟩,
  ⟨(some 8), (some (5, true)), .ld (.t 7)⟩,
  ⟨(some 9), (some (5, true)), .bin .leq 3 (.t 8) (.c (.int .i64 2147482647))⟩,
  ⟨(some 10), none, .pick (.t 5) (.t 9) (.c (.bool false))⟩,
  ⟨(some 11), none, .mov (.t 10)⟩,
  ⟨(some 12), (some (11, true)), .fadr 2 (.t 1)⟩,
  ⟨(some 13), (some (11, true)), .ld (.t 12)⟩,
  ⟨(some 14), (some (11, true)), .bin .leq 3 (.t 13) (.c (.int .i64 2147482647))⟩,
  ⟨(some 15), none, .pick (.t 11) (.t 14) (.c (.bool false))⟩,
  ⟨(some 2), none, .mov (.t 15)⟩]
@[simp] def c_plan_may : IFn := ⟨(.seq (.reg c_plan_may_r0) (.seq (.reg c_plan_may_r1) .ret)), 16, [.tmp 2]⟩

theorem fc_plan_may : fnAt Try.prog f_plan_may = some c_plan_may := by kernel_rfl
@[simp] def c_log_Parts_r0 : List Ir := [⟨(some 3), none, .box 2 (.t 0)⟩,
  ⟨(some 6), none, .mov (.c (.slice none 0 0))⟩]
@[simp] def c_log_Parts_r1 : List Ir := [⟨(some 7), none, .mov (.c (.slice none 0 0))⟩]
@[simp] def c_log_Parts_r2 : List Ir := [⟨(some 11), none, .mov (.c (.int .i64 0))⟩]
@[simp] def c_log_Parts_r3 : List Ir := [⟨(some 12), none, .bin .lss 3 (.t 11) (.c (.int .i64 4))⟩]
@[simp] def c_log_Parts_r4 : List Ir := [⟨(some 13), none, .mov (.t 11)⟩,
  ⟨(some 8), none, .mov (.t 13)⟩]
@[simp] def c_log_Parts_r5 : List Ir := [⟨(some 14), none, .mov (.t 8)⟩,
  ⟨(some 15), none, .bin .mul 3 (.t 14) (.c (.int .i64 24))⟩,
  ⟨(some 16), none, .fadr 1 (.t 3)⟩,
  ⟨(some 17), none, .ld (.t 16)⟩,
  ⟨(some 18), none, .lenS (.t 17)⟩,
  ⟨(some 19), none, .mm false (.t 15) (.t 18)⟩,
  ⟨(some 9), none, .mov (.t 19)⟩]
@[simp] def c_log_Parts_r6 : List Ir := [⟨(some 20), none, .mov (.t 9)⟩,
  ⟨(some 21), none, .bin .add 3 (.t 20) (.c (.int .i64 24))⟩,
  ⟨(some 22), none, .fadr 1 (.t 3)⟩,
  ⟨(some 23), none, .ld (.t 22)⟩,
  ⟨(some 24), none, .lenS (.t 23)⟩,
  ⟨(some 25), none, .mm false (.t 21) (.t 24)⟩,
  ⟨(some 10), none, .mov (.t 25)⟩]
@[simp] def c_log_Parts_r7 : List Ir := [⟨(some 26), none, .mov (.t 7)⟩,
  ⟨(some 27), none, .mov (.t 1)⟩,
  ⟨(some 28), none, .mov (.t 2)⟩,
  ⟨(some 29), none, .mov (.t 8)⟩,
  ⟨(some 30), none, .bin .mul 3 (.t 28) (.t 29)⟩,
  ⟨(some 31), none, .bin .add 3 (.t 27) (.t 30)⟩,
  ⟨(some 32), none, .fadr 0 (.t 3)⟩,
  ⟨(some 33), none, .ld (.t 32)⟩,
  ⟨(some 34), none, .mov (.t 8)⟩,
  ⟨(some 35), none, .fadr 1 (.t 3)⟩,
  ⟨(some 36), none, .ld (.t 35)⟩,
  ⟨(some 37), none, .mov (.t 9)⟩,
  ⟨(some 38), none, .mov (.t 10)⟩,
  ⟨(some 39), none, .sls (.t 36) (some (.t 37)) (some (.t 38))⟩,
  ⟨(some 40), none, .build [(.int .i64 0), (.int .i64 0), (.int .i64 0), (.string ⟨#[]⟩)] [(0, (1, (.t 31))), (1, (1, (.t 33))), (2, (1, (.t 34))), (3, (1, (.t 39)))]⟩,
  ⟨(some 41), none, .mkrow 4 1 [(.int .i64 0), (.int .i64 0), (.int .i64 0), (.string ⟨#[]⟩)] [(0, (4, (.t 40)))]⟩,
  ⟨(some 42), none, .app 4 40 (.t 26) (.t 41)⟩,
  ⟨(some 7), none, .mov (.t 42)⟩]
@[simp] def c_log_Parts_r8 : List Ir := [⟨(some 43), none, .bin .add 3 (.t 11) (.c (.int .i64 1))⟩,
  ⟨(some 11), none, .mov (.t 43)⟩]
def c_log_Parts_l9 : IC := (.seq (.reg c_log_Parts_r3) (.seq (.cond (.t 12) .skip (.exit 0)) (.seq (.block 1 (.seq (.reg c_log_Parts_r4) (.seq (.reg c_log_Parts_r5) (.seq (.reg c_log_Parts_r6) (.regd c_log_Parts_r7 []))))) (.reg c_log_Parts_r8))))
@[simp] def c_log_Parts_r10 : List Ir := [⟨(some 44), none, .mov (.t 7)⟩,
  ⟨(some 6), none, .mov (.t 44)⟩]
@[simp] def c_log_Parts : IFn := ⟨(.seq (.reg c_log_Parts_r0) (.seq (.reg c_log_Parts_r1) (.seq (.seq (.reg c_log_Parts_r2) (.block 0 (.loop c_log_Parts_l9))) (.seq (.reg c_log_Parts_r10) .ret)))), 45, [.tmp 6]⟩

theorem fc_log_Parts : fnAt Try.prog f_log_Parts = some c_log_Parts := by kernel_rfl
@[simp] def c_plan_steps_record_r0 : List Ir := [⟨(some 5), none, .box 4 (.t 2)⟩]
@[simp] def c_plan_steps_record_r1 : List Ir := [⟨(some 9), none, .ldn 4 (.t 5)⟩,
  ⟨(some 10), none, .call f_record_Put [(.t 9)]⟩,
  ⟨(some 8), none, .mov (.t 10)⟩,
  ⟨(some 11), none, .ext 0 (.t 8)⟩,
  ⟨(some 12), none, .ext 1 (.t 8)⟩,
  ⟨(some 6), none, .mov (.t 11)⟩,
  ⟨(some 7), none, .mov (.t 12)⟩]
@[simp] def c_plan_steps_record_r2 : List Ir := [⟨(some 13), none, .mov (.t 0)⟩,
  ⟨(some 14), none, .mov (.t 1)⟩,
  ⟨(some 15), none, .mov (.t 6)⟩,
  ⟨(some 16), none, .call f_plan_steps_write [(.t 13), (.t 14), (.t 15)]⟩]
@[simp] def c_plan_steps_record : IFn := ⟨(.seq (.reg c_plan_steps_record_r0) (.seq (.reg c_plan_steps_record_r1) (.reg c_plan_steps_record_r2))), 17, []⟩

theorem fc_plan_steps_record : fnAt Try.prog f_plan_steps_record = some c_plan_steps_record := by kernel_rfl
@[simp] def c_open_Home_r0 : List Ir := [⟨(some 4), none, .mov (.c (.int .i64 0))⟩]
@[simp] def c_open_Home_r1 : List Ir := [⟨(some 5), none, .mov (.t 0)⟩,
  ⟨(some 6), none, .bin .mul 3 (.c (.int .i64 4)) (.t 5)⟩,
  ⟨(some 7), none, .bin .add 3 (.c (.int .i64 202)) (.t 6)⟩,
  ⟨(some 8), none, .mov (.t 1)⟩,
  ⟨(some 9), none, .bin .add 3 (.t 7) (.t 8)⟩,
  ⟨(some 4), none, .mov (.t 9)⟩]
@[simp] def c_open_Home : IFn := ⟨(.seq (.reg c_open_Home_r0) (.seq (.reg c_open_Home_r1) .ret)), 10, [.tmp 4]⟩

theorem fc_open_Home : fnAt Try.prog f_open_Home = some c_open_Home := by kernel_rfl
@[simp] def c_plan_steps_flush_r0 : List Ir := [⟨(some 2), none, .mov (.t 0)⟩,
  ⟨(some 3), none, .mov (.t 0)⟩,
  ⟨(some 4), none, .nilck (.t 3)⟩,
  ⟨(some 5), none, .ld (.t 4)⟩,
  ⟨(some 6), none, .build [(.bool false), (.int .i64 0), (.string ⟨#[]⟩)] [(0, (1, (.c (.bool true))))]⟩,
  ⟨(some 7), none, .mkrow 3 1 [(.bool false), (.int .i64 0), (.string ⟨#[]⟩)] [(0, (3, (.t 6)))]⟩,
  ⟨(some 8), none, .app 3 32 (.t 5) (.t 7)⟩,
  ⟨(some 9), none, .nilck (.t 2)⟩,
  ⟨none, none, .st 1 (.t 9) (.t 8)⟩]
@[simp] def c_plan_steps_flush : IFn := ⟨(.reg c_plan_steps_flush_r0), 10, []⟩

theorem fc_plan_steps_flush : fnAt Try.prog f_plan_steps_flush = some c_plan_steps_flush := by kernel_rfl
@[simp] def c_plan_steps_head_r0 : List Ir := [⟨(some 3), none, .box 2 (.t 1)⟩]
@[simp] def c_plan_steps_head_r1 : List Ir := [⟨(some 7), none, .ldn 2 (.t 3)⟩,
  ⟨(some 8), none, .call f_head_Put [(.t 7)]⟩,
  ⟨(some 6), none, .mov (.t 8)⟩,
  ⟨(some 9), none, .ext 0 (.t 6)⟩,
  ⟨(some 10), none, .ext 1 (.t 6)⟩,
  ⟨(some 4), none, .mov (.t 9)⟩,
  ⟨(some 5), none, .mov (.t 10)⟩]
@[simp] def c_plan_steps_head_r2 : List Ir := [⟨(some 11), none, .mov (.t 0)⟩,
  ⟨(some 12), none, .fadr 0 (.t 3)⟩,
  ⟨(some 13), none, .ld (.t 12)⟩,
  ⟨(some 14), none, .bin .rem 3 (.t 13) (.c (.int .i64 2))⟩,
  ⟨(some 15), none, .mov (.t 4)⟩,
  ⟨(some 16), none, .call f_plan_steps_write [(.t 11), (.t 14), (.t 15)]⟩]
@[simp] def c_plan_steps_head_r3 : List Ir := [⟨(some 17), none, .mov (.t 0)⟩,
  ⟨(some 18), none, .call f_plan_steps_flush [(.t 17)]⟩]
@[simp] def c_plan_steps_head : IFn := ⟨(.seq (.reg c_plan_steps_head_r0) (.seq (.reg c_plan_steps_head_r1) (.seq (.reg c_plan_steps_head_r2) (.reg c_plan_steps_head_r3)))), 19, []⟩

theorem fc_plan_steps_head : fnAt Try.prog f_plan_steps_head = some c_plan_steps_head := by kernel_rfl
@[simp] def c_ref1_roomy_r0 : List Ir := [⟨(some 1), none, .box 5 (.t 0)⟩,
  ⟨(some 2), none, .mov (.c (.bool false))⟩]
@[simp] def c_ref1_roomy_r1 : List Ir := [⟨(some 3), none, .ldn 5 (.t 1)⟩,
  ⟨(some 4), none, .call f_ref1_PagerMay [(.t 3)]⟩,
  ⟨(some 5), none, .mov (.t 4)⟩,
  ⟨(some 6), (some (5, true)), .fadr 0 (.t 1)⟩,
  ⟨(some 7), (some (5, true)), .fadr 0 (.t 6)⟩,
  ⟨(some 8), (some (5, true)), .ld (.t 7)⟩,
  ⟨(some 9), (some (5, true)), .bin .leq 3 (.t 8) (.c (.int .i64 2147482647))⟩,
  ⟨(some 10), none, .pick (.t 5) (.t 9) (.c (.bool false))⟩,
  ⟨(some 11), none, .mov (.t 10)⟩,
  ⟨(some 12), (some (11, true)), .fadr 2 (.t 1)⟩,
  ⟨(some 13), (some (11, true)), .ld (.t 12)⟩,
  ⟨(some 14), (some (11, true)), .bin .leq 3 (.t 13) (.c (.int .i64 2147482647))⟩,
  ⟨(some 15), none, .pick (.t 11) (.t 14) (.c (.bool false))⟩,
  ⟨(some 2), none, .mov (.t 15)⟩]
@[simp] def c_ref1_roomy : IFn := ⟨(.seq (.reg c_ref1_roomy_r0) (.seq (.reg c_ref1_roomy_r1) .ret)), 16, [.tmp 2]⟩

theorem fc_ref1_roomy : fnAt Try.prog f_ref1_roomy = some c_ref1_roomy := by kernel_rfl
@[simp] def c_ref1_PutRecord_r0 : List Ir := [⟨(some 1), none, .box 4 (.t 0)⟩,
  ⟨(some 2), none, .mov (.c (.string ⟨#[]⟩))⟩,
  ⟨(some 3), none, .mov (.c (.int .i64 0))⟩]
@[simp] def c_ref1_PutRecord_r1 : List Ir := [⟨(some 4), none, .ldn 4 (.t 1)⟩,
  ⟨(some 5), none, .call f_ref1_RecordMay [(.t 4)]⟩,
  ⟨(some 6), none, .un .not (.t 5)⟩]
@[simp] def c_ref1_PutRecord_r2 : List Ir := [⟨(some 2), none, .mov (.c (.string ⟨#[]⟩))⟩,
  ⟨(some 3), none, .mov (.c (.int .i64 300))⟩]
@[simp] def c_ref1_PutRecord_r3 : List Ir := [⟨(some 7), none, .fadr 0 (.t 1)⟩,
  ⟨(some 8), none, .ld (.t 7)⟩,
  ⟨(some 10), none, .fadr 1 (.t 1)⟩,
  ⟨(some 11), none, .ld (.t 10)⟩,
  ⟨(some 12), none, .ii .u8 (.t 11)⟩,
  ⟨(some 13), none, .fadr 2 (.t 1)⟩,
  ⟨(some 14), none, .ld (.t 13)⟩,
  ⟨(some 15), none, .ii .u8 (.t 14)⟩,
  ⟨(some 16), none, .fadr 3 (.t 1)⟩,
  ⟨(some 17), none, .ld (.t 16)⟩,
  ⟨(some 18), none, .lenS (.t 17)⟩,
  ⟨(some 19), none, .ii .u8 (.t 18)⟩,
  ⟨(some 20), none, .mkrow 1 4 [(.int .u8 0), (.int .u8 0), (.int .u8 0), (.int .u8 0)] [(0, (1, (.t 12))), (1, (1, (.t 15))), (2, (1, (.t 19))), (3, (1, (.c (.int .u8 0))))]⟩,
  ⟨(some 21), none, .b2s (.t 20)⟩,
  ⟨(some 23), none, .fadr 3 (.t 1)⟩,
  ⟨(some 24), none, .ld (.t 23)⟩,
  ⟨(some 26), none, .fadr 3 (.t 1)⟩,
  ⟨(some 27), none, .ld (.t 26)⟩,
  ⟨(some 28), none, .lenS (.t 27)⟩,
  ⟨(some 29), none, .bin .sub 3 (.c (.int .i64 24)) (.t 28)⟩,
  ⟨(some 9), none, .call f_ref1_Num [(.t 8)]⟩,
  ⟨(some 22), none, .bin .add 9 (.t 9) (.t 21)⟩,
  ⟨(some 25), none, .bin .add 9 (.t 22) (.t 24)⟩,
  ⟨(some 30), none, .call f_ref1_zeros [(.t 29)]⟩,
  ⟨(some 31), none, .bin .add 9 (.t 25) (.t 30)⟩,
  ⟨(some 2), none, .mov (.t 31)⟩,
  ⟨(some 3), none, .mov (.c (.int .i64 0))⟩]
@[simp] def c_ref1_PutRecord : IFn := ⟨(.seq (.reg c_ref1_PutRecord_r0) (.seq (.seq (.reg c_ref1_PutRecord_r1) (.cond (.t 6) (.seq (.reg c_ref1_PutRecord_r2) .ret) .skip)) (.seq (.regd c_ref1_PutRecord_r3 [(3, 20), (6, 20), (9, 20), (13, 20), (15, 20), (17, 20), (3, 23), (6, 23), (9, 23), (13, 23), (15, 23)]) .ret))), 32, [.tmp 2, .tmp 3]⟩

theorem fc_ref1_PutRecord : fnAt Try.prog f_ref1_PutRecord = some c_ref1_PutRecord := by kernel_rfl
@[simp] def c_ref1_part_r0 : List Ir := [⟨(some 4), none, .mov (.c (.string ⟨#[]⟩))⟩]
@[simp] def c_ref1_part_r1 : List Ir := [⟨(some 5), none, .mov (.t 0)⟩,
  ⟨(some 6), none, .mov (.t 0)⟩,
  ⟨(some 7), none, .lenS (.t 6)⟩,
  ⟨(some 8), none, .mov (.t 1)⟩,
  ⟨(some 9), none, .bin .mul 3 (.t 8) (.c (.int .i64 24))⟩,
  ⟨(some 10), none, .mm false (.t 7) (.t 9)⟩,
  ⟨(some 11), none, .mov (.t 0)⟩,
  ⟨(some 12), none, .lenS (.t 11)⟩,
  ⟨(some 13), none, .mov (.t 1)⟩,
  ⟨(some 14), none, .bin .add 3 (.t 13) (.c (.int .i64 1))⟩,
  ⟨(some 15), none, .bin .mul 3 (.t 14) (.c (.int .i64 24))⟩,
  ⟨(some 16), none, .mm false (.t 12) (.t 15)⟩,
  ⟨(some 17), none, .sls (.t 5) (some (.t 10)) (some (.t 16))⟩,
  ⟨(some 4), none, .mov (.t 17)⟩]
@[simp] def c_ref1_part : IFn := ⟨(.seq (.reg c_ref1_part_r0) (.seq (.reg c_ref1_part_r1) .ret)), 18, [.tmp 4]⟩

theorem fc_ref1_part : fnAt Try.prog f_ref1_part = some c_ref1_part := by kernel_rfl
@[simp] def c_ref1_write_r0 : List Ir := [⟨(some 4), none, .new [(.bool false), (.int .i64 0), (.string ⟨#[]⟩)]⟩]
@[simp] def c_ref1_write_r1 : List Ir := [⟨(some 8), none, .mov (.t 1)⟩,
  ⟨(some 9), none, .call f_ref1_PutPair [(.t 8)]⟩,
  ⟨(some 7), none, .mov (.t 9)⟩,
  ⟨(some 10), none, .ext 0 (.t 7)⟩,
  ⟨(some 11), none, .ext 1 (.t 7)⟩,
  ⟨(some 5), none, .mov (.t 10)⟩,
  ⟨(some 6), none, .mov (.t 11)⟩]
@[simp] def c_ref1_write_r2 : List Ir := [⟨(some 12), none, .mov (.t 0)⟩,
  ⟨(some 13), none, .mov (.t 5)⟩,
  ⟨(some 14), none, .build [(.int .i64 0), (.string ⟨#[]⟩)] [(0, (1, (.t 12))), (1, (1, (.t 13)))]⟩,
  ⟨(some 15), none, .build [(.bool false), (.int .i64 0), (.string ⟨#[]⟩)] [(1, (2, (.t 14)))]⟩,
  ⟨none, none, .st 3 (.t 4) (.t 15)⟩]
@[simp] def c_ref1_write : IFn := ⟨(.seq (.reg c_ref1_write_r0) (.seq (.reg c_ref1_write_r1) (.seq (.reg c_ref1_write_r2) .ret))), 16, [.ldn 4 3]⟩

theorem fc_ref1_write : fnAt Try.prog f_ref1_write = some c_ref1_write := by kernel_rfl
@[simp] def c_ref1_home_r0 : List Ir := [⟨(some 4), none, .mov (.c (.int .i64 0))⟩]
@[simp] def c_ref1_home_r1 : List Ir := [⟨(some 5), none, .mov (.t 0)⟩,
  ⟨(some 6), none, .bin .mul 3 (.c (.int .i64 4)) (.t 5)⟩,
  ⟨(some 7), none, .bin .add 3 (.c (.int .i64 202)) (.t 6)⟩,
  ⟨(some 8), none, .mov (.t 1)⟩,
  ⟨(some 9), none, .bin .add 3 (.t 7) (.t 8)⟩,
  ⟨(some 4), none, .mov (.t 9)⟩]
@[simp] def c_ref1_home : IFn := ⟨(.seq (.reg c_ref1_home_r0) (.seq (.reg c_ref1_home_r1) .ret)), 10, [.tmp 4]⟩

theorem fc_ref1_home : fnAt Try.prog f_ref1_home = some c_ref1_home := by kernel_rfl
@[simp] def c_ref1_headStep_r0 : List Ir := [⟨(some 1), none, .box 2 (.t 0)⟩,
  ⟨(some 2), none, .new [(.bool false), (.int .i64 0), (.string ⟨#[]⟩)]⟩]
@[simp] def c_ref1_headStep_r1 : List Ir := [⟨(some 6), none, .ldn 2 (.t 1)⟩,
  ⟨(some 7), none, .call f_ref1_PutHead [(.t 6)]⟩,
  ⟨(some 5), none, .mov (.t 7)⟩,
  ⟨(some 8), none, .ext 0 (.t 5)⟩,
  ⟨(some 9), none, .ext 1 (.t 5)⟩,
  ⟨(some 3), none, .mov (.t 8)⟩,
  ⟨(some 4), none, .mov (.t 9)⟩]
@[simp] def c_ref1_headStep_r2 : List Ir := [⟨(some 10), none, .fadr 0 (.t 1)⟩,
  ⟨(some 11), none, .ld (.t 10)⟩,
  ⟨(some 12), none, .bin .and 3 (.t 11) (.c (.int .i64 1))⟩,
  ⟨(some 13), none, .mov (.t 3)⟩,
  ⟨(some 14), none, .call f_ref1_write [(.t 12), (.t 13)]⟩,
  ⟨none, none, .st 3 (.t 2) (.t 14)⟩]
@[simp] def c_ref1_headStep : IFn := ⟨(.seq (.reg c_ref1_headStep_r0) (.seq (.reg c_ref1_headStep_r1) (.seq (.reg c_ref1_headStep_r2) .ret))), 15, [.ldn 2 3]⟩

theorem fc_ref1_headStep : fnAt Try.prog f_ref1_headStep = some c_ref1_headStep := by kernel_rfl
@[simp] def c_log_Images_r0 : List Ir := [⟨(some 2), none, .mov (.c (.bool false))⟩]
@[simp] def c_log_Images_r1 : List Ir := [⟨(some 3), none, .mov (.c (.int .i64 (-1)))⟩]
@[simp] def c_log_Images_r2 : List Ir := [⟨(some 6), none, .mov (.t 0)⟩,
  ⟨(some 7), none, .lenV (.t 6)⟩,
  ⟨(some 8), none, .mov (.c (.int .i64 0))⟩]
@[simp] def c_log_Images_r3 : List Ir := [⟨(some 9), none, .bin .lss 3 (.t 8) (.t 7)⟩]
@[simp] def c_log_Images_r4 : List Ir := [⟨(some 10), none, .iadrS 2 (.t 6) (.t 8)⟩,
  ⟨(some 11), none, .ldn 2 (.t 10)⟩,
  ⟨(some 5), none, .new [(.int .i64 0), (.string ⟨#[]⟩)]⟩,
  ⟨none, none, .st 2 (.t 5) (.t 11)⟩]
@[simp] def c_log_Images_r5 : List Ir := [⟨(some 12), none, .fadr 0 (.t 5)⟩,
  ⟨(some 13), none, .ld (.t 12)⟩,
  ⟨(some 14), none, .mov (.t 3)⟩,
  ⟨(some 15), none, .bin .leq 3 (.t 13) (.t 14)⟩,
  ⟨(some 16), none, .mov (.t 15)⟩,
  ⟨(some 17), (some (16, false)), .fadr 0 (.t 5)⟩,
  ⟨(some 18), (some (16, false)), .ld (.t 17)⟩,
  ⟨(some 19), (some (16, false)), .call f_record_Page [(.t 18)]⟩,
  ⟨(some 20), (some (16, false)), .un .not (.t 19)⟩,
  ⟨(some 21), none, .pick (.t 16) (.c (.bool true)) (.t 20)⟩,
  ⟨(some 22), none, .mov (.t 21)⟩,
  ⟨(some 23), (some (22, false)), .fadr 1 (.t 5)⟩,
  ⟨(some 24), (some (22, false)), .ld (.t 23)⟩,
  ⟨(some 25), (some (22, false)), .lenS (.t 24)⟩,
  ⟨(some 26), (some (22, false)), .bin .gtr 3 (.t 25) (.c (.int .i64 96))⟩,
  ⟨(some 27), none, .pick (.t 22) (.c (.bool true)) (.t 26)⟩]
@[simp] def c_log_Images_r6 : List Ir := [⟨(some 2), none, .mov (.c (.bool false))⟩]
@[simp] def c_log_Images_r7 : List Ir := [⟨(some 28), none, .fadr 0 (.t 5)⟩,
  ⟨(some 29), none, .ld (.t 28)⟩,
  ⟨(some 3), none, .mov (.t 29)⟩]
@[simp] def c_log_Images_r8 : List Ir := [⟨(some 30), none, .bin .add 3 (.t 8) (.c (.int .i64 1))⟩,
  ⟨(some 8), none, .mov (.t 30)⟩]
def c_log_Images_l9 : IC := (.seq (.reg c_log_Images_r3) (.seq (.cond (.t 9) .skip (.exit 0)) (.seq (.block 1 (.seq (.reg c_log_Images_r4) (.seq (.seq (.reg c_log_Images_r5) (.cond (.t 27) (.seq (.reg c_log_Images_r6) .ret) .skip)) (.reg c_log_Images_r7)))) (.reg c_log_Images_r8))))
@[simp] def c_log_Images_r10 : List Ir := [⟨(some 2), none, .mov (.c (.bool true))⟩]
@[simp] def c_log_Images : IFn := ⟨(.seq (.reg c_log_Images_r0) (.seq (.reg c_log_Images_r1) (.seq (.seq (.reg c_log_Images_r2) (.block 0 (.loop c_log_Images_l9))) (.seq (.reg c_log_Images_r10) .ret)))), 31, [.tmp 2]⟩

theorem fc_log_Images : fnAt Try.prog f_log_Images = some c_log_Images := by kernel_rfl
@[simp] def c_log_Count_r0 : List Ir := [⟨(some 2), none, .mov (.c (.int .i64 0))⟩]
@[simp] def c_log_Count_r1 : List Ir := [⟨(some 3), none, .mov (.t 0)⟩,
  ⟨(some 4), none, .bin .mul 3 (.t 3) (.c (.int .i64 4))⟩,
  ⟨(some 5), none, .bin .add 3 (.t 4) (.c (.int .i64 1))⟩,
  ⟨(some 2), none, .mov (.t 5)⟩]
@[simp] def c_log_Count : IFn := ⟨(.seq (.reg c_log_Count_r0) (.seq (.reg c_log_Count_r1) .ret)), 6, [.tmp 2]⟩

theorem fc_log_Count : fnAt Try.prog f_log_Count = some c_log_Count := by kernel_rfl
@[simp] def c_log_Make_r0 : List Ir := [⟨(some 4), none, .mov (.c (.slice none 0 0))⟩,
  ⟨(some 5), none, .mov (.c (.int .i64 0))⟩]
@[simp] def c_log_Make_r1 : List Ir := [⟨(some 9), none, .mov (.t 0)⟩,
  ⟨(some 10), none, .call f_log_Images [(.t 9)]⟩,
  ⟨(some 11), none, .un .not (.t 10)⟩,
  ⟨(some 12), none, .mov (.t 11)⟩,
  ⟨(some 13), (some (12, false)), .mov (.t 1)⟩,
  ⟨(some 14), (some (12, false)), .call f_record_Seq [(.t 13)]⟩,
  ⟨(some 15), (some (12, false)), .un .not (.t 14)⟩,
  ⟨(some 16), none, .pick (.t 12) (.c (.bool true)) (.t 15)⟩,
  ⟨(some 17), none, .mov (.t 16)⟩,
  ⟨(some 18), (some (17, false)), .mov (.t 1)⟩,
  ⟨(some 19), (some (17, false)), .mov (.t 0)⟩,
  ⟨(some 20), (some (17, false)), .lenV (.t 19)⟩,
  ⟨(some 21), (some (17, false)), .call f_log_Count [(.t 20)]⟩,
  ⟨(some 22), (some (17, false)), .bin .add 3 (.t 18) (.t 21)⟩,
  ⟨(some 23), (some (17, false)), .bin .sub 3 (.t 22) (.c (.int .i64 1))⟩,
  ⟨(some 24), (some (17, false)), .call f_record_Seq [(.t 23)]⟩,
  ⟨(some 25), (some (17, false)), .un .not (.t 24)⟩,
  ⟨(some 26), none, .pick (.t 17) (.c (.bool true)) (.t 25)⟩]
@[simp] def c_log_Make_r2 : List Ir := [⟨(some 4), none, .mov (.c (.slice none 0 0))⟩,
  ⟨(some 5), none, .mov (.c (.int .i64 400))⟩]
@[simp] def c_log_Make_r3 : List Ir := [⟨(some 6), none, .mov (.c (.slice none 0 0))⟩]
@[simp] def c_log_Make_r4 : List Ir := [⟨(some 27), none, .mov (.t 0)⟩,
  ⟨(some 28), none, .lenV (.t 27)⟩,
  ⟨(some 29), none, .mov (.c (.int .i64 0))⟩]
@[simp] def c_log_Make_r5 : List Ir := [⟨(some 30), none, .bin .lss 3 (.t 29) (.t 28)⟩]
@[simp] def c_log_Make_r6 : List Ir := [⟨(some 31), none, .iadrS 2 (.t 27) (.t 29)⟩,
  ⟨(some 32), none, .ldn 2 (.t 31)⟩,
  ⟨(some 8), none, .new [(.int .i64 0), (.string ⟨#[]⟩)]⟩,
  ⟨none, none, .st 2 (.t 8) (.t 32)⟩]
@[simp] def c_log_Make_r7 : List Ir := [⟨(some 33), none, .mov (.t 6)⟩,
  ⟨(some 34), none, .ldn 2 (.t 8)⟩,
  ⟨(some 35), none, .mov (.t 1)⟩,
  ⟨(some 36), none, .mov (.t 6)⟩,
  ⟨(some 37), none, .lenV (.t 36)⟩,
  ⟨(some 38), none, .bin .add 3 (.t 35) (.t 37)⟩,
  ⟨(some 39), none, .call f_log_Parts [(.t 34), (.t 38), (.c (.int .i64 1))]⟩,
  ⟨(some 40), none, .app 4 40 (.t 33) (.t 39)⟩,
  ⟨(some 6), none, .mov (.t 40)⟩]
@[simp] def c_log_Make_r8 : List Ir := [⟨(some 41), none, .bin .add 3 (.t 29) (.c (.int .i64 1))⟩,
  ⟨(some 29), none, .mov (.t 41)⟩]
def c_log_Make_l9 : IC := (.seq (.reg c_log_Make_r5) (.seq (.cond (.t 30) .skip (.exit 0)) (.seq (.block 1 (.seq (.reg c_log_Make_r6) (.reg c_log_Make_r7))) (.reg c_log_Make_r8))))
@[simp] def c_log_Make_r10 : List Ir := [⟨(some 42), none, .mov (.t 6)⟩,
  ⟨(some 43), none, .mov (.t 1)⟩,
  ⟨(some 44), none, .mov (.t 6)⟩,
  ⟨(some 45), none, .lenV (.t 44)⟩,
  ⟨(some 46), none, .bin .add 3 (.t 43) (.t 45)⟩,
  ⟨(some 47), none, .build [(.int .i64 0), (.int .i64 0), (.int .i64 0), (.string ⟨#[]⟩)] [(0, (1, (.t 46))), (2, (1, (.c (.int .i64 4))))]⟩,
  ⟨(some 48), none, .mkrow 4 1 [(.int .i64 0), (.int .i64 0), (.int .i64 0), (.string ⟨#[]⟩)] [(0, (4, (.t 47)))]⟩,
  ⟨(some 49), none, .app 4 40 (.t 42) (.t 48)⟩,
  ⟨(some 4), none, .mov (.t 49)⟩,
  ⟨(some 5), none, .mov (.c (.int .i64 0))⟩]
@[simp] def c_log_Make : IFn := ⟨(.seq (.reg c_log_Make_r0) (.seq (.seq (.reg c_log_Make_r1) (.cond (.t 26) (.seq (.reg c_log_Make_r2) .ret) .skip)) (.seq (.reg c_log_Make_r3) (.seq (.seq (.reg c_log_Make_r4) (.block 0 (.loop c_log_Make_l9))) (.seq (.reg c_log_Make_r10) .ret))))), 50, [.tmp 4, .tmp 5]⟩

theorem fc_log_Make : fnAt Try.prog f_log_Make = some c_log_Make := by kernel_rfl
@[simp] def c_ref1_Make_r0 : List Ir := [⟨(some 4), none, .mov (.c (.slice none 0 0))⟩,
  ⟨(some 5), none, .mov (.c (.int .i64 0))⟩]
@[simp] def c_ref1_Make_r1 : List Ir := [⟨(some 9), none, .mov (.t 0)⟩,
  ⟨(some 10), none, .call f_ref1_ImagesMay [(.t 9)]⟩,
  ⟨(some 11), none, .un .not (.t 10)⟩,
  ⟨(some 12), none, .mov (.t 11)⟩,
  ⟨(some 13), (some (12, false)), .mov (.t 1)⟩,
  ⟨(some 14), (some (12, false)), .call f_ref1_seqMay [(.t 13)]⟩,
  ⟨(some 15), (some (12, false)), .un .not (.t 14)⟩,
  ⟨(some 16), none, .pick (.t 12) (.c (.bool true)) (.t 15)⟩,
  ⟨(some 17), none, .mov (.t 16)⟩,
  ⟨(some 18), (some (17, false)), .mov (.t 1)⟩,
  ⟨(some 19), (some (17, false)), .mov (.t 0)⟩,
  ⟨(some 20), (some (17, false)), .lenV (.t 19)⟩,
  ⟨(some 21), (some (17, false)), .bin .mul 3 (.c (.int .i64 4)) (.t 20)⟩,
  ⟨(some 22), (some (17, false)), .bin .add 3 (.t 18) (.t 21)⟩,
  ⟨(some 23), (some (17, false)), .call f_ref1_seqMay [(.t 22)]⟩,
  ⟨(some 24), (some (17, false)), .un .not (.t 23)⟩,
  ⟨(some 25), none, .pick (.t 17) (.c (.bool true)) (.t 24)⟩]
@[simp] def c_ref1_Make_r2 : List Ir := [⟨(some 4), none, .mov (.c (.slice none 0 0))⟩,
  ⟨(some 5), none, .mov (.c (.int .i64 400))⟩]
@[simp] def c_ref1_Make_r3 : List Ir := [⟨(some 6), none, .mov (.c (.slice none 0 0))⟩]
@[simp] def c_ref1_Make_r4 : List Ir := [⟨(some 7), none, .mov (.c (.int .i64 0))⟩]
@[simp] def c_ref1_Make_r5 : List Ir := [⟨(some 26), none, .mov (.t 7)⟩,
  ⟨(some 27), none, .mov (.t 0)⟩,
  ⟨(some 28), none, .lenV (.t 27)⟩,
  ⟨(some 29), none, .bin .lss 3 (.t 26) (.t 28)⟩]
@[simp] def c_ref1_Make_r6 : List Ir := [⟨(some 8), none, .mov (.c (.int .i64 0))⟩]
@[simp] def c_ref1_Make_r7 : List Ir := [⟨(some 32), none, .mov (.t 8)⟩,
  ⟨(some 33), none, .bin .lss 3 (.t 32) (.c (.int .i64 4))⟩]
@[simp] def c_ref1_Make_r8 : List Ir := [⟨(some 36), none, .mov (.t 6)⟩,
  ⟨(some 37), none, .mov (.t 1)⟩,
  ⟨(some 38), none, .mov (.t 6)⟩,
  ⟨(some 39), none, .lenV (.t 38)⟩,
  ⟨(some 40), none, .bin .add 3 (.t 37) (.t 39)⟩,
  ⟨(some 41), none, .mov (.t 0)⟩,
  ⟨(some 42), none, .mov (.t 7)⟩,
  ⟨(some 43), none, .iadrS 2 (.t 41) (.t 42)⟩,
  ⟨(some 44), none, .fadr 0 (.t 43)⟩,
  ⟨(some 45), none, .ld (.t 44)⟩,
  ⟨(some 46), none, .mov (.t 8)⟩,
  ⟨(some 47), none, .mov (.t 0)⟩,
  ⟨(some 48), none, .mov (.t 7)⟩,
  ⟨(some 49), none, .iadrS 2 (.t 47) (.t 48)⟩,
  ⟨(some 50), none, .fadr 1 (.t 49)⟩,
  ⟨(some 51), none, .ld (.t 50)⟩,
  ⟨(some 52), none, .mov (.t 8)⟩,
  ⟨(some 53), none, .call f_ref1_part [(.t 51), (.t 52)]⟩,
  ⟨(some 54), none, .build [(.int .i64 0), (.int .i64 0), (.int .i64 0), (.string ⟨#[]⟩)] [(0, (1, (.t 40))), (1, (1, (.t 45))), (2, (1, (.t 46))), (3, (1, (.t 53)))]⟩,
  ⟨(some 55), none, .mkrow 4 1 [(.int .i64 0), (.int .i64 0), (.int .i64 0), (.string ⟨#[]⟩)] [(0, (4, (.t 54)))]⟩,
  ⟨(some 56), none, .app 4 40 (.t 36) (.t 55)⟩,
  ⟨(some 6), none, .mov (.t 56)⟩]
@[simp] def c_ref1_Make_r9 : List Ir := [⟨(some 34), none, .mov (.t 8)⟩,
  ⟨(some 35), none, .bin .add 3 (.t 34) (.c (.int .i64 1))⟩,
  ⟨(some 8), none, .mov (.t 35)⟩]
def c_ref1_Make_l10 : IC := (.seq (.seq (.reg c_ref1_Make_r7) (.cond (.t 33) .skip (.exit 2))) (.seq (.block 3 (.regd c_ref1_Make_r8 [(9, 17)])) (.reg c_ref1_Make_r9)))
@[simp] def c_ref1_Make_r11 : List Ir := [⟨(some 30), none, .mov (.t 7)⟩,
  ⟨(some 31), none, .bin .add 3 (.t 30) (.c (.int .i64 1))⟩,
  ⟨(some 7), none, .mov (.t 31)⟩]
def c_ref1_Make_l12 : IC := (.seq (.seq (.reg c_ref1_Make_r5) (.cond (.t 29) .skip (.exit 0))) (.seq (.block 1 (.seq (.reg c_ref1_Make_r6) (.block 2 (.loop c_ref1_Make_l10)))) (.reg c_ref1_Make_r11)))
@[simp] def c_ref1_Make_r13 : List Ir := [⟨(some 57), none, .mov (.t 6)⟩,
  ⟨(some 58), none, .mov (.t 1)⟩,
  ⟨(some 59), none, .mov (.t 6)⟩,
  ⟨(some 60), none, .lenV (.t 59)⟩,
  ⟨(some 61), none, .bin .add 3 (.t 58) (.t 60)⟩,
  ⟨(some 62), none, .build [(.int .i64 0), (.int .i64 0), (.int .i64 0), (.string ⟨#[]⟩)] [(0, (1, (.t 61))), (2, (1, (.c (.int .i64 4))))]⟩,
  ⟨(some 63), none, .mkrow 4 1 [(.int .i64 0), (.int .i64 0), (.int .i64 0), (.string ⟨#[]⟩)] [(0, (4, (.t 62)))]⟩,
  ⟨(some 64), none, .app 4 40 (.t 57) (.t 63)⟩,
  ⟨(some 6), none, .mov (.t 64)⟩]
@[simp] def c_ref1_Make_r14 : List Ir := [⟨(some 65), none, .mov (.t 6)⟩,
  ⟨(some 4), none, .mov (.t 65)⟩,
  ⟨(some 5), none, .mov (.c (.int .i64 0))⟩]
@[simp] def c_ref1_Make : IFn := ⟨(.seq (.reg c_ref1_Make_r0) (.seq (.seq (.reg c_ref1_Make_r1) (.cond (.t 25) (.seq (.reg c_ref1_Make_r2) .ret) .skip)) (.seq (.reg c_ref1_Make_r3) (.seq (.seq (.reg c_ref1_Make_r4) (.block 0 (.loop c_ref1_Make_l12))) (.seq (.reg c_ref1_Make_r13) (.seq (.reg c_ref1_Make_r14) .ret)))))), 66, [.tmp 4, .tmp 5]⟩

theorem fc_ref1_Make : fnAt Try.prog f_ref1_Make = some c_ref1_Make := by kernel_rfl
@[simp] def c_plan_May_1_r0 : List Ir := [⟨(some 2), none, .mov (.c (.bool false))⟩]
@[simp] def c_plan_May_1_r1 : List Ir := [⟨(some 3), none, .mov (.t 0)⟩,
  ⟨(some 4), none, .lenS (.t 3)⟩,
  ⟨(some 5), none, .bin .gtr 3 (.t 4) (.c (.int .i64 96))⟩,
  ⟨(some 2), none, .mov (.t 5)⟩]
@[simp] def c_plan_May_1 : IFn := ⟨(.seq (.reg c_plan_May_1_r0) (.seq (.reg c_plan_May_1_r1) .ret)), 6, [.tmp 2]⟩

theorem fc_plan_May_1 : fnAt Try.prog f_plan_May_1 = some c_plan_May_1 := by kernel_rfl
@[simp] def c_head_May_r0 : List Ir := [⟨(some 1), none, .box 2 (.t 0)⟩,
  ⟨(some 2), none, .mov (.c (.bool false))⟩]
@[simp] def c_head_May_r1 : List Ir := [⟨(some 3), none, .fadr 0 (.t 1)⟩,
  ⟨(some 4), none, .ld (.t 3)⟩,
  ⟨(some 5), none, .bin .geq 3 (.t 4) (.c (.int .i64 0))⟩,
  ⟨(some 6), none, .mov (.t 5)⟩,
  ⟨(some 7), (some (6, true)), .fadr 0 (.t 1)⟩,
  ⟨(some 8), (some (6, true)), .ld (.t 7)⟩,
  ⟨(some 9), (some (6, true)), .bin .leq 3 (.t 8) (.c (.int .i64 2147483647))⟩,
  ⟨(some 10), none, .pick (.t 6) (.t 9) (.c (.bool false))⟩,
  ⟨(some 11), none, .mov (.t 10)⟩,
  ⟨(some 12), (some (11, true)), .fadr 1 (.t 1)⟩,
  ⟨(some 13), (some (11, true)), .ld (.t 12)⟩,
  ⟨(some 14), (some (11, true)), .call f_record_Seq [(.t 13)]⟩,
  ⟨(some 15), none, .pick (.t 11) (.t 14) (.c (.bool false))⟩,
  ⟨(some 2), none, .mov (.t 15)⟩]
@[simp] def c_head_May : IFn := ⟨(.seq (.reg c_head_May_r0) (.seq (.reg c_head_May_r1) .ret)), 16, [.tmp 2]⟩

theorem fc_head_May : fnAt Try.prog f_head_May = some c_head_May := by kernel_rfl
@[simp] def c_record_Seq_r0 : List Ir := [⟨(some 2), none, .mov (.c (.bool false))⟩]
@[simp] def c_record_Seq_r1 : List Ir := [⟨(some 3), none, .mov (.t 0)⟩,
  ⟨(some 4), none, .bin .geq 3 (.t 3) (.c (.int .i64 1))⟩,
  ⟨(some 5), none, .mov (.t 4)⟩,
  ⟨(some 6), (some (5, true)), .mov (.t 0)⟩,
  ⟨(some 7), (some (5, true)), .bin .leq 3 (.t 6) (.c (.int .i64 2147483647))⟩,
  ⟨(some 8), none, .pick (.t 5) (.t 7) (.c (.bool false))⟩,
  ⟨(some 2), none, .mov (.t 8)⟩]
@[simp] def c_record_Seq : IFn := ⟨(.seq (.reg c_record_Seq_r0) (.seq (.reg c_record_Seq_r1) .ret)), 9, [.tmp 2]⟩

theorem fc_record_Seq : fnAt Try.prog f_record_Seq = some c_record_Seq := by kernel_rfl
@[simp] def c_ref1_textMay_r0 : List Ir := [⟨(some 2), none, .mov (.c (.bool false))⟩]
@[simp] def c_ref1_textMay_r1 : List Ir := [⟨(some 3), none, .mov (.t 0)⟩,
  ⟨(some 4), none, .lenS (.t 3)⟩,
  ⟨(some 5), none, .bin .leq 3 (.t 4) (.c (.int .i64 96))⟩,
  ⟨(some 2), none, .mov (.t 5)⟩]
@[simp] def c_ref1_textMay : IFn := ⟨(.seq (.reg c_ref1_textMay_r0) (.seq (.reg c_ref1_textMay_r1) .ret)), 6, [.tmp 2]⟩

theorem fc_ref1_textMay : fnAt Try.prog f_ref1_textMay = some c_ref1_textMay := by kernel_rfl
@[simp] def c_ref1_HeadMay_r0 : List Ir := [⟨(some 1), none, .box 2 (.t 0)⟩,
  ⟨(some 2), none, .mov (.c (.bool false))⟩]
@[simp] def c_ref1_HeadMay_r1 : List Ir := [⟨(some 3), none, .fadr 0 (.t 1)⟩,
  ⟨(some 4), none, .ld (.t 3)⟩,
  ⟨(some 5), none, .bin .geq 3 (.t 4) (.c (.int .i64 0))⟩,
  ⟨(some 6), none, .mov (.t 5)⟩,
  ⟨(some 7), (some (6, true)), .fadr 0 (.t 1)⟩,
  ⟨(some 8), (some (6, true)), .ld (.t 7)⟩,
  ⟨(some 9), (some (6, true)), .bin .leq 3 (.t 8) (.c (.int .i64 2147483647))⟩,
  ⟨(some 10), none, .pick (.t 6) (.t 9) (.c (.bool false))⟩,
  ⟨(some 11), none, .mov (.t 10)⟩,
  ⟨(some 12), (some (11, true)), .fadr 1 (.t 1)⟩,
  ⟨(some 13), (some (11, true)), .ld (.t 12)⟩,
  ⟨(some 14), (some (11, true)), .call f_ref1_seqMay [(.t 13)]⟩,
  ⟨(some 15), none, .pick (.t 11) (.t 14) (.c (.bool false))⟩,
  ⟨(some 2), none, .mov (.t 15)⟩]
@[simp] def c_ref1_HeadMay : IFn := ⟨(.seq (.reg c_ref1_HeadMay_r0) (.seq (.reg c_ref1_HeadMay_r1) .ret)), 16, [.tmp 2]⟩

theorem fc_ref1_HeadMay : fnAt Try.prog f_ref1_HeadMay = some c_ref1_HeadMay := by kernel_rfl
@[simp] def c_ref1_seqMay_r0 : List Ir := [⟨(some 2), none, .mov (.c (.bool false))⟩]
@[simp] def c_ref1_seqMay_r1 : List Ir := [⟨(some 3), none, .mov (.t 0)⟩,
  ⟨(some 4), none, .bin .geq 3 (.t 3) (.c (.int .i64 1))⟩,
  ⟨(some 5), none, .mov (.t 4)⟩,
  ⟨(some 6), (some (5, true)), .mov (.t 0)⟩,
  ⟨(some 7), (some (5, true)), .bin .leq 3 (.t 6) (.c (.int .i64 2147483647))⟩,
  ⟨(some 8), none, .pick (.t 5) (.t 7) (.c (.bool false))⟩,
  ⟨(some 2), none, .mov (.t 8)⟩]
@[simp] def c_ref1_seqMay : IFn := ⟨(.seq (.reg c_ref1_seqMay_r0) (.seq (.reg c_ref1_seqMay_r1) .ret)), 9, [.tmp 2]⟩

theorem fc_ref1_seqMay : fnAt Try.prog f_ref1_seqMay = some c_ref1_seqMay := by kernel_rfl
@[simp] def c_law0_SameImages_r0 : List Ir := [⟨(some 4), none, .mov (.c (.bool false))⟩]
@[simp] def c_law0_SameImages_r1 : List Ir := [⟨(some 6), none, .mov (.t 0)⟩,
  ⟨(some 7), none, .lenV (.t 6)⟩,
  ⟨(some 8), none, .mov (.t 1)⟩,
  ⟨(some 9), none, .lenV (.t 8)⟩,
  ⟨(some 10), none, .bin .neq 3 (.t 7) (.t 9)⟩]
@[simp] def c_law0_SameImages_r2 : List Ir := [⟨(some 4), none, .mov (.c (.bool false))⟩]
@[simp] def c_law0_SameImages_r3 : List Ir := [⟨(some 5), none, .mov (.c (.int .i64 0))⟩]
@[simp] def c_law0_SameImages_r4 : List Ir := [⟨(some 11), none, .mov (.t 5)⟩,
  ⟨(some 12), none, .mov (.t 0)⟩,
  ⟨(some 13), none, .lenV (.t 12)⟩,
  ⟨(some 14), none, .bin .lss 3 (.t 11) (.t 13)⟩]
@[simp] def c_law0_SameImages_r5 : List Ir := [⟨(some 17), none, .mov (.t 0)⟩,
  ⟨(some 18), none, .mov (.t 5)⟩,
  ⟨(some 19), none, .iadrS 2 (.t 17) (.t 18)⟩,
  ⟨(some 20), none, .ldn 2 (.t 19)⟩,
  ⟨(some 21), none, .mov (.t 1)⟩,
  ⟨(some 22), none, .mov (.t 5)⟩,
  ⟨(some 23), none, .iadrS 2 (.t 21) (.t 22)⟩,
  ⟨(some 24), none, .ldn 2 (.t 23)⟩,
  ⟨(some 25), none, .eqa true [.num .i64, .txt] (.t 20) (.t 24)⟩]
@[simp] def c_law0_SameImages_r6 : List Ir := [⟨(some 4), none, .mov (.c (.bool false))⟩]
@[simp] def c_law0_SameImages_r7 : List Ir := [⟨(some 15), none, .mov (.t 5)⟩,
  ⟨(some 16), none, .bin .add 3 (.t 15) (.c (.int .i64 1))⟩,
  ⟨(some 5), none, .mov (.t 16)⟩]
def c_law0_SameImages_l8 : IC := (.seq (.seq (.reg c_law0_SameImages_r4) (.cond (.t 14) .skip (.exit 0))) (.seq (.block 1 (.seq (.regd c_law0_SameImages_r5 []) (.cond (.t 25) (.seq (.reg c_law0_SameImages_r6) .ret) .skip))) (.reg c_law0_SameImages_r7)))
@[simp] def c_law0_SameImages_r9 : List Ir := [⟨(some 4), none, .mov (.c (.bool true))⟩]
@[simp] def c_law0_SameImages : IFn := ⟨(.seq (.reg c_law0_SameImages_r0) (.seq (.seq (.reg c_law0_SameImages_r1) (.cond (.t 10) (.seq (.reg c_law0_SameImages_r2) .ret) .skip)) (.seq (.seq (.reg c_law0_SameImages_r3) (.block 0 (.loop c_law0_SameImages_l8))) (.seq (.reg c_law0_SameImages_r9) .ret)))), 26, [.tmp 4]⟩

theorem fc_law0_SameImages : fnAt Try.prog f_law0_SameImages = some c_law0_SameImages := by kernel_rfl
@[simp] def c_ref1_Best_r0 : List Ir := [⟨(some 4), none, .new [(.int .i64 0), (.int .i64 0)]⟩,
  ⟨(some 5), none, .mov (.c (.int .i64 0))⟩]
@[simp] def c_ref1_Best_r1 : List Ir := [⟨(some 11), none, .mov (.t 0)⟩,
  ⟨(some 12), none, .call f_ref1_sectorHead [(.t 11)]⟩,
  ⟨(some 10), none, .mov (.t 12)⟩,
  ⟨(some 13), none, .ext 0 (.t 10)⟩,
  ⟨(some 14), none, .ext 1 (.t 10)⟩,
  ⟨(some 6), none, .new [(.int .i64 0), (.int .i64 0)]⟩,
  ⟨none, none, .st 2 (.t 6) (.t 13)⟩,
  ⟨(some 7), none, .mov (.t 14)⟩]
@[simp] def c_ref1_Best_r2 : List Ir := [⟨(some 16), none, .mov (.t 1)⟩,
  ⟨(some 17), none, .call f_ref1_sectorHead [(.t 16)]⟩,
  ⟨(some 15), none, .mov (.t 17)⟩,
  ⟨(some 18), none, .ext 0 (.t 15)⟩,
  ⟨(some 19), none, .ext 1 (.t 15)⟩,
  ⟨(some 8), none, .new [(.int .i64 0), (.int .i64 0)]⟩,
  ⟨none, none, .st 2 (.t 8) (.t 18)⟩,
  ⟨(some 9), none, .mov (.t 19)⟩]
@[simp] def c_ref1_Best_r3 : List Ir := [⟨(some 20), none, .mov (.t 7)⟩,
  ⟨(some 21), none, .un .not (.t 20)⟩,
  ⟨(some 22), none, .mov (.t 21)⟩,
  ⟨(some 23), (some (22, true)), .mov (.t 9)⟩,
  ⟨(some 24), (some (22, true)), .un .not (.t 23)⟩,
  ⟨(some 25), none, .pick (.t 22) (.t 24) (.c (.bool false))⟩]
@[simp] def c_ref1_Best_r4 : List Ir := [⟨(some 26), none, .build [(.int .i64 0), (.int .i64 0)] []⟩,
  ⟨none, none, .st 2 (.t 4) (.t 26)⟩,
  ⟨(some 5), none, .mov (.c (.int .i64 501))⟩]
@[simp] def c_ref1_Best_r5 : List Ir := [⟨(some 27), none, .mov (.t 7)⟩,
  ⟨(some 28), none, .un .not (.t 27)⟩,
  ⟨(some 29), none, .mov (.t 28)⟩,
  ⟨(some 30), (some (29, false)), .mov (.t 9)⟩,
  ⟨(some 31), (some (29, false)), .mov (.t 30)⟩,
  ⟨(some 32), (some (31, true)), .fadr 0 (.t 8)⟩,
  ⟨(some 33), (some (31, true)), .ld (.t 32)⟩,
  ⟨(some 34), (some (31, true)), .fadr 0 (.t 6)⟩,
  ⟨(some 35), (some (31, true)), .ld (.t 34)⟩,
  ⟨(some 36), (some (31, true)), .bin .gtr 3 (.t 33) (.t 35)⟩,
  ⟨(some 37), (some (29, false)), .pick (.t 31) (.t 36) (.c (.bool false))⟩,
  ⟨(some 38), none, .pick (.t 29) (.c (.bool true)) (.t 37)⟩]
@[simp] def c_ref1_Best_r6 : List Ir := [⟨(some 39), none, .ldn 2 (.t 8)⟩,
  ⟨none, none, .st 2 (.t 4) (.t 39)⟩,
  ⟨(some 5), none, .mov (.c (.int .i64 0))⟩]
@[simp] def c_ref1_Best_r7 : List Ir := [⟨(some 40), none, .ldn 2 (.t 6)⟩,
  ⟨none, none, .st 2 (.t 4) (.t 40)⟩,
  ⟨(some 5), none, .mov (.c (.int .i64 0))⟩]
@[simp] def c_ref1_Best : IFn := ⟨(.seq (.reg c_ref1_Best_r0) (.seq (.reg c_ref1_Best_r1) (.seq (.reg c_ref1_Best_r2) (.seq (.seq (.reg c_ref1_Best_r3) (.cond (.t 25) (.seq (.reg c_ref1_Best_r4) .ret) .skip)) (.seq (.seq (.reg c_ref1_Best_r5) (.cond (.t 38) (.seq (.reg c_ref1_Best_r6) .ret) .skip)) (.seq (.reg c_ref1_Best_r7) .ret)))))), 41, [.ldn 4 2, .tmp 5]⟩

theorem fc_ref1_Best : fnAt Try.prog f_ref1_Best = some c_ref1_Best := by kernel_rfl
@[simp] def c_ref1_homeText_r0 : List Ir := [⟨(some 2), none, .box 2 (.t 0)⟩,
  ⟨(some 4), none, .mov (.c (.string ⟨#[]⟩))⟩]
@[simp] def c_ref1_homeText_r1 : List Ir := [⟨(some 5), none, .mov (.c (.string ⟨#[]⟩))⟩]
@[simp] def c_ref1_homeText_r2 : List Ir := [⟨(some 6), none, .mov (.c (.int .i64 0))⟩]
@[simp] def c_ref1_homeText_r3 : List Ir := [⟨(some 11), none, .mov (.t 6)⟩,
  ⟨(some 12), none, .bin .lss 3 (.t 11) (.c (.int .i64 4))⟩]
@[simp] def c_ref1_homeText_r4 : List Ir := [⟨(some 16), none, .ldn 2 (.t 2)⟩,
  ⟨(some 17), none, .mov (.t 1)⟩,
  ⟨(some 18), none, .mov (.t 6)⟩,
  ⟨(some 19), none, .call f_ref1_home [(.t 17), (.t 18)]⟩,
  ⟨(some 20), none, .call f_ref1_read [(.t 16), (.t 19)]⟩,
  ⟨(some 21), none, .call f_ref1_GetPair [(.t 20)]⟩,
  ⟨(some 15), none, .mov (.t 21)⟩,
  ⟨(some 22), none, .ext 0 (.t 15)⟩,
  ⟨(some 23), none, .ext 1 (.t 15)⟩,
  ⟨(some 7), none, .mov (.t 22)⟩,
  ⟨(some 8), none, .mov (.t 23)⟩]
@[simp] def c_ref1_homeText_r5 : List Ir := [⟨(some 25), none, .mov (.t 7)⟩,
  ⟨(some 26), none, .call f_ref1_GetRecord [(.t 25)]⟩,
  ⟨(some 24), none, .mov (.t 26)⟩,
  ⟨(some 27), none, .ext 0 (.t 24)⟩,
  ⟨(some 28), none, .ext 1 (.t 24)⟩,
  ⟨(some 9), none, .new [(.int .i64 0), (.int .i64 0), (.int .i64 0), (.string ⟨#[]⟩)]⟩,
  ⟨none, none, .st 4 (.t 9) (.t 27)⟩,
  ⟨(some 10), none, .mov (.t 28)⟩]
@[simp] def c_ref1_homeText_r6 : List Ir := [⟨(some 29), none, .mov (.t 10)⟩,
  ⟨(some 30), none, .bin .neq 3 (.t 29) (.c (.int .i64 0))⟩,
  ⟨(some 31), none, .mov (.t 30)⟩,
  ⟨(some 32), (some (31, false)), .fadr 0 (.t 9)⟩,
  ⟨(some 33), (some (31, false)), .ld (.t 32)⟩,
  ⟨(some 34), (some (31, false)), .bin .neq 3 (.t 33) (.c (.int .i64 1))⟩,
  ⟨(some 35), none, .pick (.t 31) (.c (.bool true)) (.t 34)⟩,
  ⟨(some 36), none, .mov (.t 35)⟩,
  ⟨(some 37), (some (36, false)), .fadr 1 (.t 9)⟩,
  ⟨(some 38), (some (36, false)), .ld (.t 37)⟩,
  ⟨(some 39), (some (36, false)), .mov (.t 1)⟩,
  ⟨(some 40), (some (36, false)), .bin .neq 3 (.t 38) (.t 39)⟩,
  ⟨(some 41), none, .pick (.t 36) (.c (.bool true)) (.t 40)⟩,
  ⟨(some 42), none, .mov (.t 41)⟩,
  ⟨(some 43), (some (42, false)), .fadr 2 (.t 9)⟩,
  ⟨(some 44), (some (42, false)), .ld (.t 43)⟩,
  ⟨(some 45), (some (42, false)), .mov (.t 6)⟩,
  ⟨(some 46), (some (42, false)), .bin .neq 3 (.t 44) (.t 45)⟩,
  ⟨(some 47), none, .pick (.t 42) (.c (.bool true)) (.t 46)⟩]
@[simp] def c_ref1_homeText_r7 : List Ir := [⟨(some 4), none, .mov (.c (.string ⟨#[]⟩))⟩]
@[simp] def c_ref1_homeText_r8 : List Ir := [⟨(some 48), none, .mov (.t 5)⟩,
  ⟨(some 49), none, .fadr 3 (.t 9)⟩,
  ⟨(some 50), none, .ld (.t 49)⟩,
  ⟨(some 51), none, .bin .add 9 (.t 48) (.t 50)⟩,
  ⟨(some 5), none, .mov (.t 51)⟩]
@[simp] def c_ref1_homeText_r9 : List Ir := [⟨(some 13), none, .mov (.t 6)⟩,
  ⟨(some 14), none, .bin .add 3 (.t 13) (.c (.int .i64 1))⟩,
  ⟨(some 6), none, .mov (.t 14)⟩]
def c_ref1_homeText_l10 : IC := (.seq (.seq (.reg c_ref1_homeText_r3) (.cond (.t 12) .skip (.exit 0))) (.seq (.block 1 (.seq (.regd c_ref1_homeText_r4 [(0, 3)]) (.seq (.reg c_ref1_homeText_r5) (.seq (.seq (.reg c_ref1_homeText_r6) (.cond (.t 47) (.seq (.reg c_ref1_homeText_r7) .ret) .skip)) (.reg c_ref1_homeText_r8))))) (.reg c_ref1_homeText_r9)))
@[simp] def c_ref1_homeText_r11 : List Ir := [⟨(some 52), none, .mov (.t 5)⟩,
  ⟨(some 4), none, .mov (.t 52)⟩]
@[simp] def c_ref1_homeText : IFn := ⟨(.seq (.reg c_ref1_homeText_r0) (.seq (.reg c_ref1_homeText_r1) (.seq (.seq (.reg c_ref1_homeText_r2) (.block 0 (.loop c_ref1_homeText_l10))) (.seq (.reg c_ref1_homeText_r11) .ret)))), 53, [.tmp 4]⟩

theorem fc_ref1_homeText : fnAt Try.prog f_ref1_homeText = some c_ref1_homeText := by kernel_rfl
@[simp] def c_ref1_GetPair_r0 : List Ir := [⟨(some 2), none, .mov (.c (.string ⟨#[]⟩))⟩,
  ⟨(some 3), none, .mov (.c (.int .i64 0))⟩]
@[simp] def c_ref1_GetPair_r1 : List Ir := [⟨(some 6), none, .mov (.t 0)⟩,
  ⟨(some 7), none, .lenS (.t 6)⟩,
  ⟨(some 8), none, .bin .neq 3 (.t 7) (.c (.int .i64 64))⟩]
@[simp] def c_ref1_GetPair_r2 : List Ir := [⟨(some 2), none, .mov (.c (.string ⟨#[]⟩))⟩,
  ⟨(some 3), none, .mov (.c (.int .i64 100))⟩]
@[simp] def c_ref1_GetPair_r3 : List Ir := [⟨(some 10), none, .mov (.t 0)⟩,
  ⟨(some 11), none, .sls (.t 10) none (some (.c (.int .i64 32)))⟩,
  ⟨(some 12), none, .call f_ref1_PutPair [(.t 11)]⟩,
  ⟨(some 9), none, .mov (.t 12)⟩,
  ⟨(some 13), none, .ext 0 (.t 9)⟩,
  ⟨(some 14), none, .ext 1 (.t 9)⟩,
  ⟨(some 4), none, .mov (.t 13)⟩,
  ⟨(some 5), none, .mov (.t 14)⟩]
@[simp] def c_ref1_GetPair_r4 : List Ir := [⟨(some 15), none, .mov (.t 4)⟩,
  ⟨(some 16), none, .mov (.t 0)⟩,
  ⟨(some 17), none, .bin .neq 9 (.t 15) (.t 16)⟩]
@[simp] def c_ref1_GetPair_r5 : List Ir := [⟨(some 2), none, .mov (.c (.string ⟨#[]⟩))⟩,
  ⟨(some 3), none, .mov (.c (.int .i64 100))⟩]
@[simp] def c_ref1_GetPair_r6 : List Ir := [⟨(some 18), none, .mov (.t 0)⟩,
  ⟨(some 19), none, .sls (.t 18) none (some (.c (.int .i64 32)))⟩,
  ⟨(some 2), none, .mov (.t 19)⟩,
  ⟨(some 3), none, .mov (.c (.int .i64 0))⟩]
@[simp] def c_ref1_GetPair : IFn := ⟨(.seq (.reg c_ref1_GetPair_r0) (.seq (.seq (.reg c_ref1_GetPair_r1) (.cond (.t 8) (.seq (.reg c_ref1_GetPair_r2) .ret) .skip)) (.seq (.reg c_ref1_GetPair_r3) (.seq (.seq (.reg c_ref1_GetPair_r4) (.cond (.t 17) (.seq (.reg c_ref1_GetPair_r5) .ret) .skip)) (.seq (.reg c_ref1_GetPair_r6) .ret))))), 20, [.tmp 2, .tmp 3]⟩

theorem fc_ref1_GetPair : fnAt Try.prog f_ref1_GetPair = some c_ref1_GetPair := by kernel_rfl
@[simp] def c_ref1_Scan_r0 : List Ir := [⟨(some 4), none, .mov (.c (.slice none 0 0))⟩,
  ⟨(some 5), none, .mov (.c (.int .i64 0))⟩,
  ⟨(some 6), none, .mov (.c (.int .i64 0))⟩,
  ⟨(some 7), none, .mov (.c (.int .i64 0))⟩]
@[simp] def c_ref1_Scan_r1 : List Ir := [⟨(some 12), none, .mov (.t 1)⟩,
  ⟨(some 13), none, .call f_ref1_seqMay [(.t 12)]⟩,
  ⟨(some 14), none, .un .not (.t 13)⟩,
  ⟨(some 15), none, .mov (.t 14)⟩,
  ⟨(some 16), (some (15, false)), .mov (.t 0)⟩,
  ⟨(some 17), (some (15, false)), .lenV (.t 16)⟩,
  ⟨(some 18), (some (15, false)), .bin .gtr 3 (.t 17) (.c (.int .i64 200))⟩,
  ⟨(some 19), none, .pick (.t 15) (.c (.bool true)) (.t 18)⟩]
@[simp] def c_ref1_Scan_r2 : List Ir := [⟨(some 4), none, .mov (.c (.slice none 0 0))⟩,
  ⟨(some 5), none, .mov (.c (.int .i64 0))⟩,
  ⟨(some 6), none, .mov (.c (.int .i64 0))⟩,
  ⟨(some 7), none, .mov (.c (.int .i64 400))⟩]
@[simp] def c_ref1_Scan_r3 : List Ir := [⟨(some 8), none, .mov (.c (.slice none 0 0))⟩]
@[simp] def c_ref1_Scan_r4 : List Ir := [⟨(some 9), none, .mov (.c (.int .i64 0))⟩]
@[simp] def c_ref1_Scan_r5 : List Ir := [⟨(some 21), none, .mov (.t 0)⟩,
  ⟨(some 22), none, .mov (.t 9)⟩,
  ⟨(some 23), none, .slv 1 (.t 21) (some (.t 22)) none none⟩,
  ⟨(some 24), none, .mov (.t 1)⟩,
  ⟨(some 25), none, .mov (.t 9)⟩,
  ⟨(some 26), none, .bin .add 3 (.t 24) (.t 25)⟩,
  ⟨(some 27), none, .call f_ref1_one [(.t 23), (.t 26)]⟩,
  ⟨(some 20), none, .mov (.t 27)⟩,
  ⟨(some 28), none, .ext 0 (.t 20)⟩,
  ⟨(some 29), none, .ext 1 (.t 20)⟩,
  ⟨(some 10), none, .mov (.t 28)⟩,
  ⟨(some 11), none, .mov (.t 29)⟩]
@[simp] def c_ref1_Scan_r6 : List Ir := [⟨(some 30), none, .mov (.t 11)⟩,
  ⟨(some 31), none, .bin .eql 3 (.t 30) (.c (.int .i64 0))⟩]
@[simp] def c_ref1_Scan_r7 : List Ir := [⟨(some 32), none, .mov (.t 8)⟩,
  ⟨(some 33), none, .mov (.t 1)⟩,
  ⟨(some 34), none, .mov (.t 9)⟩,
  ⟨(some 35), none, .bin .add 3 (.t 33) (.t 34)⟩,
  ⟨(some 36), none, .mov (.t 9)⟩,
  ⟨(some 4), none, .mov (.t 32)⟩,
  ⟨(some 5), none, .mov (.t 35)⟩,
  ⟨(some 6), none, .mov (.t 36)⟩,
  ⟨(some 7), none, .mov (.c (.int .i64 0))⟩]
@[simp] def c_ref1_Scan_r8 : List Ir := [⟨(some 37), none, .mov (.t 8)⟩,
  ⟨(some 38), none, .mov (.t 10)⟩,
  ⟨(some 39), none, .mkrow 1 1 [(.slice none 0 0)] [(0, (1, (.t 38)))]⟩,
  ⟨(some 40), none, .app 1 24 (.t 37) (.t 39)⟩,
  ⟨(some 8), none, .mov (.t 40)⟩]
@[simp] def c_ref1_Scan_r9 : List Ir := [⟨(some 41), none, .mov (.t 9)⟩,
  ⟨(some 42), none, .mov (.t 11)⟩,
  ⟨(some 43), none, .bin .add 3 (.t 41) (.t 42)⟩,
  ⟨(some 9), none, .mov (.t 43)⟩]
def c_ref1_Scan_l10 : IC := (.block 1 (.seq (.reg c_ref1_Scan_r5) (.seq (.seq (.reg c_ref1_Scan_r6) (.cond (.t 31) (.seq (.reg c_ref1_Scan_r7) .ret) .skip)) (.seq (.reg c_ref1_Scan_r8) (.reg c_ref1_Scan_r9)))))
@[simp] def c_ref1_Scan : IFn := ⟨(.seq (.reg c_ref1_Scan_r0) (.seq (.seq (.reg c_ref1_Scan_r1) (.cond (.t 19) (.seq (.reg c_ref1_Scan_r2) .ret) .skip)) (.seq (.reg c_ref1_Scan_r3) (.seq (.reg c_ref1_Scan_r4) (.block 0 (.loop c_ref1_Scan_l10)))))), 44, [.tmp 4, .tmp 5, .tmp 6, .tmp 7]⟩

theorem fc_ref1_Scan : fnAt Try.prog f_ref1_Scan = some c_ref1_Scan := by kernel_rfl
@[simp] def c_open_home_r0 : List Ir := [⟨(some 2), none, .box 2 (.t 0)⟩,
  ⟨(some 4), none, .mov (.c (.string ⟨#[]⟩))⟩]
@[simp] def c_open_home_r1 : List Ir := [⟨(some 5), none, .mov (.c (.string ⟨#[]⟩))⟩]
@[simp] def c_open_home_r2 : List Ir := [⟨(some 9), none, .mov (.c (.int .i64 0))⟩]
@[simp] def c_open_home_r3 : List Ir := [⟨(some 10), none, .bin .lss 3 (.t 9) (.c (.int .i64 4))⟩]
@[simp] def c_open_home_r4 : List Ir := [⟨(some 11), none, .mov (.t 9)⟩,
  ⟨(some 6), none, .mov (.t 11)⟩]
@[simp] def c_open_home_r5 : List Ir := [⟨(some 13), none, .ldn 2 (.t 2)⟩,
  ⟨(some 14), none, .mov (.t 1)⟩,
  ⟨(some 15), none, .mov (.t 6)⟩,
  ⟨(some 7), none, .new [(.int .i64 0), (.int .i64 0), (.int .i64 0), (.string ⟨#[]⟩)]⟩,
  ⟨(some 16), none, .call f_open_Home [(.t 14), (.t 15)]⟩,
  ⟨(some 17), none, .call f_open_whole [(.t 13), (.t 16)]⟩,
  ⟨(some 18), none, .call f_record_Get [(.t 17)]⟩,
  ⟨(some 12), none, .mov (.t 18)⟩,
  ⟨(some 19), none, .ext 0 (.t 12)⟩,
  ⟨(some 20), none, .ext 1 (.t 12)⟩,
  ⟨none, none, .st 4 (.t 7) (.t 19)⟩,
  ⟨(some 8), none, .mov (.t 20)⟩]
@[simp] def c_open_home_r6 : List Ir := [⟨(some 21), none, .mov (.t 8)⟩,
  ⟨(some 22), none, .bin .neq 31 (.t 21) (.c (.int .i64 0))⟩,
  ⟨(some 23), none, .mov (.t 22)⟩,
  ⟨(some 24), (some (23, false)), .fadr 0 (.t 7)⟩,
  ⟨(some 25), (some (23, false)), .ld (.t 24)⟩,
  ⟨(some 26), (some (23, false)), .bin .neq 3 (.t 25) (.c (.int .i64 1))⟩,
  ⟨(some 27), none, .pick (.t 23) (.c (.bool true)) (.t 26)⟩,
  ⟨(some 28), none, .mov (.t 27)⟩,
  ⟨(some 29), (some (28, false)), .fadr 1 (.t 7)⟩,
  ⟨(some 30), (some (28, false)), .ld (.t 29)⟩,
  ⟨(some 31), (some (28, false)), .mov (.t 1)⟩,
  ⟨(some 32), (some (28, false)), .bin .neq 3 (.t 30) (.t 31)⟩,
  ⟨(some 33), none, .pick (.t 28) (.c (.bool true)) (.t 32)⟩,
  ⟨(some 34), none, .mov (.t 33)⟩,
  ⟨(some 35), (some (34, false)), .fadr 2 (.t 7)⟩,
  ⟨(some 36), (some (34, false)), .ld (.t 35)⟩,
  ⟨(some 37), (some (34, false)), .mov (.t 6)⟩,
  ⟨(some 38), (some (34, false)), .bin .neq 3 (.t 36) (.t 37)⟩,
  ⟨(some 39), none, .pick (.t 34) (.c (.bool true)) (.t 38)⟩]
@[simp] def c_open_home_r7 : List Ir := [⟨(some 4), none, .mov (.c (.string ⟨#[]⟩))⟩]
@[simp] def c_open_home_r8 : List Ir := [⟨(some 40), none, .mov (.t 5)⟩,
  ⟨(some 41), none, .fadr 3 (.t 7)⟩,
  ⟨(some 42), none, .ld (.t 41)⟩,
  ⟨(some 43), none, .bin .add 9 (.t 40) (.t 42)⟩,
  ⟨(some 5), none, .mov (.t 43)⟩]
@[simp] def c_open_home_r9 : List Ir := [⟨(some 44), none, .bin .add 3 (.t 9) (.c (.int .i64 1))⟩,
  ⟨(some 9), none, .mov (.t 44)⟩]
def c_open_home_l10 : IC := (.seq (.reg c_open_home_r3) (.seq (.cond (.t 10) .skip (.exit 0)) (.seq (.block 1 (.seq (.reg c_open_home_r4) (.seq (.regd c_open_home_r5 [(0, 4)]) (.seq (.seq (.reg c_open_home_r6) (.cond (.t 39) (.seq (.reg c_open_home_r7) .ret) .skip)) (.reg c_open_home_r8))))) (.reg c_open_home_r9))))
@[simp] def c_open_home_r11 : List Ir := [⟨(some 45), none, .mov (.t 5)⟩,
  ⟨(some 4), none, .mov (.t 45)⟩]
@[simp] def c_open_home : IFn := ⟨(.seq (.reg c_open_home_r0) (.seq (.reg c_open_home_r1) (.seq (.seq (.reg c_open_home_r2) (.block 0 (.loop c_open_home_l10))) (.seq (.reg c_open_home_r11) .ret)))), 46, [.tmp 4]⟩

theorem fc_open_home : fnAt Try.prog f_open_home = some c_open_home := by kernel_rfl
@[simp] def c_open_whole_r0 : List Ir := [⟨(some 2), none, .box 2 (.t 0)⟩,
  ⟨(some 4), none, .mov (.c (.string ⟨#[]⟩))⟩]
@[simp] def c_open_whole_r1 : List Ir := [⟨(some 8), none, .ldn 2 (.t 2)⟩,
  ⟨(some 9), none, .mov (.t 1)⟩,
  ⟨(some 10), none, .call f_disk_Read [(.t 8), (.t 9)]⟩,
  ⟨(some 7), none, .mov (.t 10)⟩,
  ⟨(some 11), none, .ext 0 (.t 7)⟩,
  ⟨(some 12), none, .ext 1 (.t 7)⟩,
  ⟨(some 5), none, .mov (.t 11)⟩,
  ⟨(some 6), none, .mov (.t 12)⟩]
@[simp] def c_open_whole_r2 : List Ir := [⟨(some 14), none, .mov (.t 5)⟩,
  ⟨(some 15), none, .call f_pair_Get [(.t 14)]⟩,
  ⟨(some 13), none, .mov (.t 15)⟩,
  ⟨(some 16), none, .ext 0 (.t 13)⟩,
  ⟨(some 17), none, .ext 1 (.t 13)⟩,
  ⟨(some 5), none, .mov (.t 16)⟩]
@[simp] def c_open_whole_r3 : List Ir := [⟨(some 18), none, .mov (.t 5)⟩,
  ⟨(some 4), none, .mov (.t 18)⟩]
@[simp] def c_open_whole : IFn := ⟨(.seq (.reg c_open_whole_r0) (.seq (.reg c_open_whole_r1) (.seq (.reg c_open_whole_r2) (.seq (.reg c_open_whole_r3) .ret)))), 19, [.tmp 4]⟩

theorem fc_open_whole : fnAt Try.prog f_open_whole = some c_open_whole := by kernel_rfl
@[simp] def c_log_Scan_r0 : List Ir := [⟨(some 4), none, .mov (.c (.slice none 0 0))⟩,
  ⟨(some 5), none, .mov (.c (.int .i64 0))⟩,
  ⟨(some 6), none, .mov (.c (.int .i64 0))⟩,
  ⟨(some 7), none, .mov (.c (.int .i64 0))⟩]
@[simp] def c_log_Scan_r1 : List Ir := [⟨(some 13), none, .mov (.t 1)⟩,
  ⟨(some 14), none, .call f_record_Seq [(.t 13)]⟩,
  ⟨(some 15), none, .un .not (.t 14)⟩,
  ⟨(some 16), none, .mov (.t 15)⟩,
  ⟨(some 17), (some (16, false)), .mov (.t 0)⟩,
  ⟨(some 18), (some (16, false)), .lenV (.t 17)⟩,
  ⟨(some 19), (some (16, false)), .bin .gtr 3 (.t 18) (.c (.int .i64 200))⟩,
  ⟨(some 20), none, .pick (.t 16) (.c (.bool true)) (.t 19)⟩]
@[simp] def c_log_Scan_r2 : List Ir := [⟨(some 4), none, .mov (.c (.slice none 0 0))⟩,
  ⟨(some 5), none, .mov (.c (.int .i64 0))⟩,
  ⟨(some 6), none, .mov (.c (.int .i64 0))⟩,
  ⟨(some 7), none, .mov (.c (.int .i64 400))⟩]
@[simp] def c_log_Scan_r3 : List Ir := [⟨(some 8), none, .new [(.slice none 0 0), (.int .i64 0), (.slice none 0 0), (.int .i64 0), (.bool false)]⟩]
@[simp] def c_log_Scan_r4 : List Ir := [⟨(some 21), none, .mov (.t 0)⟩,
  ⟨(some 22), none, .lenV (.t 21)⟩,
  ⟨(some 23), none, .mov (.c (.int .i64 0))⟩]
@[simp] def c_log_Scan_r5 : List Ir := [⟨(some 24), none, .bin .lss 3 (.t 23) (.t 22)⟩]
@[simp] def c_log_Scan_r6 : List Ir := [⟨(some 25), none, .mov (.t 23)⟩,
  ⟨(some 26), none, .iadrS 1 (.t 21) (.t 23)⟩,
  ⟨(some 27), none, .ld (.t 26)⟩,
  ⟨(some 9), none, .mov (.t 25)⟩,
  ⟨(some 10), none, .mov (.t 27)⟩]
@[simp] def c_log_Scan_r7 : List Ir := [⟨(some 29), none, .mov (.t 10)⟩,
  ⟨(some 30), none, .call f_record_Get [(.t 29)]⟩,
  ⟨(some 28), none, .mov (.t 30)⟩,
  ⟨(some 31), none, .ext 0 (.t 28)⟩,
  ⟨(some 32), none, .ext 1 (.t 28)⟩,
  ⟨(some 11), none, .new [(.int .i64 0), (.int .i64 0), (.int .i64 0), (.string ⟨#[]⟩)]⟩,
  ⟨none, none, .st 4 (.t 11) (.t 31)⟩,
  ⟨(some 12), none, .mov (.t 32)⟩]
@[simp] def c_log_Scan_r8 : List Ir := [⟨(some 33), none, .mov (.t 12)⟩,
  ⟨(some 34), none, .bin .neq 31 (.t 33) (.c (.int .i64 0))⟩,
  ⟨(some 35), none, .mov (.t 34)⟩,
  ⟨(some 36), (some (35, false)), .fadr 0 (.t 11)⟩,
  ⟨(some 37), (some (35, false)), .ld (.t 36)⟩,
  ⟨(some 38), (some (35, false)), .mov (.t 1)⟩,
  ⟨(some 39), (some (35, false)), .mov (.t 9)⟩,
  ⟨(some 40), (some (35, false)), .bin .add 3 (.t 38) (.t 39)⟩,
  ⟨(some 41), (some (35, false)), .bin .neq 3 (.t 37) (.t 40)⟩,
  ⟨(some 42), none, .pick (.t 35) (.c (.bool true)) (.t 41)⟩,
  ⟨(some 43), none, .mov (.t 42)⟩,
  ⟨(some 44), (some (43, false)), .ldn 4 (.t 11)⟩,
  ⟨(some 45), (some (43, false)), .mov (.t 9)⟩,
  ⟨(some 46), (some (43, false)), .call f_log_scanner_take [(.t 8), (.t 44), (.t 45)]⟩,
  ⟨(some 47), (some (43, false)), .un .not (.t 46)⟩,
  ⟨(some 48), none, .pick (.t 43) (.c (.bool true)) (.t 47)⟩]
@[simp] def c_log_Scan_r9 : List Ir := [⟨(some 49), none, .bin .add 3 (.t 23) (.c (.int .i64 1))⟩,
  ⟨(some 23), none, .mov (.t 49)⟩]
def c_log_Scan_l10 : IC := (.seq (.reg c_log_Scan_r5) (.seq (.cond (.t 24) .skip (.exit 0)) (.seq (.block 1 (.seq (.reg c_log_Scan_r6) (.seq (.reg c_log_Scan_r7) (.seq (.reg c_log_Scan_r8) (.cond (.t 48) (.exit 0) .skip))))) (.reg c_log_Scan_r9))))
@[simp] def c_log_Scan_r11 : List Ir := [⟨(some 50), none, .fadr 0 (.t 8)⟩,
  ⟨(some 51), none, .ld (.t 50)⟩,
  ⟨(some 52), none, .mov (.t 1)⟩,
  ⟨(some 53), none, .fadr 1 (.t 8)⟩,
  ⟨(some 54), none, .ld (.t 53)⟩,
  ⟨(some 55), none, .bin .add 3 (.t 52) (.t 54)⟩,
  ⟨(some 56), none, .fadr 1 (.t 8)⟩,
  ⟨(some 57), none, .ld (.t 56)⟩,
  ⟨(some 4), none, .mov (.t 51)⟩,
  ⟨(some 5), none, .mov (.t 55)⟩,
  ⟨(some 6), none, .mov (.t 57)⟩,
  ⟨(some 7), none, .mov (.c (.int .i64 0))⟩]
@[simp] def c_log_Scan : IFn := ⟨(.seq (.reg c_log_Scan_r0) (.seq (.seq (.reg c_log_Scan_r1) (.cond (.t 20) (.seq (.reg c_log_Scan_r2) .ret) .skip)) (.seq (.reg c_log_Scan_r3) (.seq (.seq (.reg c_log_Scan_r4) (.block 0 (.loop c_log_Scan_l10))) (.seq (.regd c_log_Scan_r11 []) .ret))))), 58, [.tmp 4, .tmp 5, .tmp 6, .tmp 7]⟩

theorem fc_log_Scan : fnAt Try.prog f_log_Scan = some c_log_Scan := by kernel_rfl
@[simp] def c_head_Get_r0 : List Ir := [⟨(some 2), none, .new [(.int .i64 0), (.int .i64 0)]⟩,
  ⟨(some 3), none, .mov (.c (.int .i64 0))⟩]
@[simp] def c_head_Get_r1 : List Ir := [⟨(some 7), none, .mov (.t 0)⟩,
  ⟨(some 8), none, .lenS (.t 7)⟩,
  ⟨(some 9), none, .bin .neq 3 (.t 8) (.c (.int .i64 32))⟩]
@[simp] def c_head_Get_r2 : List Ir := [⟨(some 10), none, .build [(.int .i64 0), (.int .i64 0)] []⟩,
  ⟨none, none, .st 2 (.t 2) (.t 10)⟩,
  ⟨(some 3), none, .mov (.c (.int .i64 500))⟩]
@[simp] def c_head_Get_r3 : List Ir := [⟨(some 11), none, .mov (.t 0)⟩,
  ⟨(some 12), none, .sls (.t 11) (some (.c (.int .i64 4))) none⟩,
  ⟨(some 14), none, .mov (.t 0)⟩,
  ⟨(some 15), none, .sls (.t 14) (some (.c (.int .i64 8))) none⟩,
  ⟨(some 4), none, .new [(.int .i64 0), (.int .i64 0)]⟩,
  ⟨(some 13), none, .call f_record_Number [(.t 12)]⟩,
  ⟨(some 16), none, .call f_record_Number [(.t 15)]⟩,
  ⟨(some 17), none, .build [(.int .i64 0), (.int .i64 0)] [(0, (1, (.t 13))), (1, (1, (.t 16)))]⟩,
  ⟨none, none, .st 2 (.t 4) (.t 17)⟩]
@[simp] def c_head_Get_r4 : List Ir := [⟨(some 19), none, .ldn 2 (.t 4)⟩,
  ⟨(some 20), none, .call f_head_Put [(.t 19)]⟩,
  ⟨(some 18), none, .mov (.t 20)⟩,
  ⟨(some 21), none, .ext 0 (.t 18)⟩,
  ⟨(some 22), none, .ext 1 (.t 18)⟩,
  ⟨(some 5), none, .mov (.t 21)⟩,
  ⟨(some 6), none, .mov (.t 22)⟩]
@[simp] def c_head_Get_r5 : List Ir := [⟨(some 23), none, .mov (.t 6)⟩,
  ⟨(some 24), none, .bin .neq 31 (.t 23) (.c (.int .i64 0))⟩,
  ⟨(some 25), none, .mov (.t 24)⟩,
  ⟨(some 26), (some (25, false)), .mov (.t 5)⟩,
  ⟨(some 27), (some (25, false)), .mov (.t 0)⟩,
  ⟨(some 28), (some (25, false)), .bin .neq 9 (.t 26) (.t 27)⟩,
  ⟨(some 29), none, .pick (.t 25) (.c (.bool true)) (.t 28)⟩]
@[simp] def c_head_Get_r6 : List Ir := [⟨(some 30), none, .build [(.int .i64 0), (.int .i64 0)] []⟩,
  ⟨none, none, .st 2 (.t 2) (.t 30)⟩,
  ⟨(some 3), none, .mov (.c (.int .i64 500))⟩]
@[simp] def c_head_Get_r7 : List Ir := [⟨(some 31), none, .ldn 2 (.t 4)⟩,
  ⟨none, none, .st 2 (.t 2) (.t 31)⟩,
  ⟨(some 3), none, .mov (.c (.int .i64 0))⟩]
@[simp] def c_head_Get : IFn := ⟨(.seq (.reg c_head_Get_r0) (.seq (.seq (.reg c_head_Get_r1) (.cond (.t 9) (.seq (.reg c_head_Get_r2) .ret) .skip)) (.seq (.regd c_head_Get_r3 []) (.seq (.seq (.reg c_head_Get_r4) (.seq (.reg c_head_Get_r5) (.cond (.t 29) (.seq (.reg c_head_Get_r6) .ret) .skip))) (.seq (.reg c_head_Get_r7) .ret))))), 32, [.ldn 2 2, .tmp 3]⟩

theorem fc_head_Get : fnAt Try.prog f_head_Get = some c_head_Get := by kernel_rfl
@[simp] def c_record_Fill_r0 : List Ir := [⟨(some 2), none, .mov (.c (.string ⟨#[]⟩))⟩]
@[simp] def c_record_Fill_r1 : List Ir := [⟨(some 3), none, .mov (.t 0)⟩,
  ⟨(some 4), none, .mov (.t 0)⟩,
  ⟨(some 5), none, .lenS (.t 4)⟩,
  ⟨(some 6), none, .bin .sub 3 (.c (.int .i64 32)) (.t 5)⟩,
  ⟨(some 7), none, .call f_strings_Repeat [(.c (.string ⟨#[0]⟩)), (.t 6)]⟩,
  ⟨(some 8), none, .bin .add 9 (.t 3) (.t 7)⟩,
  ⟨(some 2), none, .mov (.t 8)⟩]
@[simp] def c_record_Fill : IFn := ⟨(.seq (.reg c_record_Fill_r0) (.seq (.reg c_record_Fill_r1) .ret)), 9, [.tmp 2]⟩

theorem fc_record_Fill : fnAt Try.prog f_record_Fill = some c_record_Fill := by kernel_rfl
@[simp] def c_record_Four_r0 : List Ir := [⟨(some 2), none, .mov (.c (.string ⟨#[]⟩))⟩]
@[simp] def c_record_Four_r1 : List Ir := [⟨(some 3), none, .mov (.t 0)⟩,
  ⟨(some 4), none, .bin .shr 3 (.t 3) (.c (.int .u64 24))⟩,
  ⟨(some 5), none, .ii .u8 (.t 4)⟩,
  ⟨(some 6), none, .mov (.t 0)⟩,
  ⟨(some 7), none, .bin .shr 3 (.t 6) (.c (.int .u64 16))⟩,
  ⟨(some 8), none, .ii .u8 (.t 7)⟩,
  ⟨(some 9), none, .mov (.t 0)⟩,
  ⟨(some 10), none, .bin .shr 3 (.t 9) (.c (.int .u64 8))⟩,
  ⟨(some 11), none, .ii .u8 (.t 10)⟩,
  ⟨(some 12), none, .mov (.t 0)⟩,
  ⟨(some 13), none, .ii .u8 (.t 12)⟩,
  ⟨(some 14), none, .mkrow 1 4 [(.int .u8 0), (.int .u8 0), (.int .u8 0), (.int .u8 0)] [(0, (1, (.t 5))), (1, (1, (.t 8))), (2, (1, (.t 11))), (3, (1, (.t 13)))]⟩,
  ⟨(some 15), none, .b2s (.t 14)⟩,
  ⟨(some 2), none, .mov (.t 15)⟩]
@[simp] def c_record_Four : IFn := ⟨(.seq (.reg c_record_Four_r0) (.seq (.reg c_record_Four_r1) .ret)), 16, [.tmp 2]⟩

theorem fc_record_Four : fnAt Try.prog f_record_Four = some c_record_Four := by kernel_rfl
@[simp] def c_head_of_r0 : List Ir := [⟨(some 2), none, .new [(.int .i64 0), (.int .i64 0)]⟩,
  ⟨(some 3), none, .mov (.c (.bool false))⟩]
@[simp] def c_head_of_r1 : List Ir := [⟨(some 9), none, .mov (.t 0)⟩,
  ⟨(some 10), none, .call f_pair_Get [(.t 9)]⟩,
  ⟨(some 8), none, .mov (.t 10)⟩,
  ⟨(some 11), none, .ext 0 (.t 8)⟩,
  ⟨(some 12), none, .ext 1 (.t 8)⟩,
  ⟨(some 4), none, .mov (.t 11)⟩,
  ⟨(some 5), none, .mov (.t 12)⟩]
@[simp] def c_head_of_r2 : List Ir := [⟨(some 14), none, .mov (.t 4)⟩,
  ⟨(some 15), none, .call f_head_Get [(.t 14)]⟩,
  ⟨(some 13), none, .mov (.t 15)⟩,
  ⟨(some 16), none, .ext 0 (.t 13)⟩,
  ⟨(some 17), none, .ext 1 (.t 13)⟩,
  ⟨(some 6), none, .new [(.int .i64 0), (.int .i64 0)]⟩,
  ⟨none, none, .st 2 (.t 6) (.t 16)⟩,
  ⟨(some 7), none, .mov (.t 17)⟩]
@[simp] def c_head_of_r3 : List Ir := [⟨(some 18), none, .ldn 2 (.t 6)⟩,
  ⟨(some 19), none, .mov (.t 7)⟩,
  ⟨(some 20), none, .bin .eql 31 (.t 19) (.c (.int .i64 0))⟩,
  ⟨none, none, .st 2 (.t 2) (.t 18)⟩,
  ⟨(some 3), none, .mov (.t 20)⟩]
@[simp] def c_head_of : IFn := ⟨(.seq (.reg c_head_of_r0) (.seq (.reg c_head_of_r1) (.seq (.reg c_head_of_r2) (.seq (.reg c_head_of_r3) .ret)))), 21, [.ldn 2 2, .tmp 3]⟩

theorem fc_head_of : fnAt Try.prog f_head_of = some c_head_of := by kernel_rfl
@[simp] def c_slices_IndexFunc_string_string_r0 : List Ir := [⟨(some 4), none, .mov (.c (.int .i64 0))⟩]
@[simp] def c_slices_IndexFunc_string_string_r1 : List Ir := [⟨(some 6), none, .mov (.t 0)⟩,
  ⟨(some 7), none, .lenV (.t 6)⟩,
  ⟨(some 8), none, .mov (.c (.int .i64 0))⟩]
@[simp] def c_slices_IndexFunc_string_string_r2 : List Ir := [⟨(some 9), none, .bin .lss 3 (.t 8) (.t 7)⟩]
@[simp] def c_slices_IndexFunc_string_string_r3 : List Ir := [⟨(some 10), none, .mov (.t 8)⟩,
  ⟨(some 5), none, .mov (.t 10)⟩]
@[simp] def c_slices_IndexFunc_string_string_r4 : List Ir := [⟨(some 11), none, .mov (.t 1)⟩,
  ⟨(some 12), none, .mov (.t 0)⟩,
  ⟨(some 13), none, .mov (.t 5)⟩,
  ⟨(some 14), none, .iadrS 1 (.t 12) (.t 13)⟩,
  ⟨(some 15), none, .ld (.t 14)⟩,
  ⟨(some 16), none, .callV (.t 11) [(.t 15)]⟩]
@[simp] def c_slices_IndexFunc_string_string_r5 : List Ir := [⟨(some 17), none, .mov (.t 5)⟩,
  ⟨(some 4), none, .mov (.t 17)⟩]
@[simp] def c_slices_IndexFunc_string_string_r6 : List Ir := [⟨(some 18), none, .bin .add 3 (.t 8) (.c (.int .i64 1))⟩,
  ⟨(some 8), none, .mov (.t 18)⟩]
def c_slices_IndexFunc_string_string_l7 : IC := (.seq (.reg c_slices_IndexFunc_string_string_r2) (.seq (.cond (.t 9) .skip (.exit 0)) (.seq (.block 1 (.seq (.reg c_slices_IndexFunc_string_string_r3) (.seq (.reg c_slices_IndexFunc_string_string_r4) (.cond (.t 16) (.seq (.reg c_slices_IndexFunc_string_string_r5) .ret) .skip)))) (.reg c_slices_IndexFunc_string_string_r6))))
@[simp] def c_slices_IndexFunc_string_string_r8 : List Ir := [⟨(some 4), none, .mov (.c (.int .i64 (-1)))⟩]
@[simp] def c_slices_IndexFunc_string_string : IFn := ⟨(.seq (.reg c_slices_IndexFunc_string_string_r0) (.seq (.seq (.reg c_slices_IndexFunc_string_string_r1) (.block 0 (.loop c_slices_IndexFunc_string_string_l7))) (.seq (.reg c_slices_IndexFunc_string_string_r8) .ret))), 19, [.tmp 4]⟩

theorem fc_slices_IndexFunc_string_string : fnAt Try.prog f_slices_IndexFunc_string_string = some c_slices_IndexFunc_string_string := by kernel_rfl
@[simp] def c_slices_IndexFunc_Write_r0 : List Ir := [⟨(some 4), none, .mov (.c (.int .i64 0))⟩]
@[simp] def c_slices_IndexFunc_Write_r1 : List Ir := [⟨(some 6), none, .mov (.t 0)⟩,
  ⟨(some 7), none, .lenV (.t 6)⟩,
  ⟨(some 8), none, .mov (.c (.int .i64 0))⟩]
@[simp] def c_slices_IndexFunc_Write_r2 : List Ir := [⟨(some 9), none, .bin .lss 3 (.t 8) (.t 7)⟩]
@[simp] def c_slices_IndexFunc_Write_r3 : List Ir := [⟨(some 10), none, .mov (.t 8)⟩,
  ⟨(some 5), none, .mov (.t 10)⟩]
@[simp] def c_slices_IndexFunc_Write_r4 : List Ir := [⟨(some 11), none, .mov (.t 1)⟩,
  ⟨(some 12), none, .mov (.t 0)⟩,
  ⟨(some 13), none, .mov (.t 5)⟩,
  ⟨(some 14), none, .iadrS 2 (.t 12) (.t 13)⟩,
  ⟨(some 15), none, .ldn 2 (.t 14)⟩,
  ⟨(some 16), none, .callV (.t 11) [(.t 15)]⟩]
@[simp] def c_slices_IndexFunc_Write_r5 : List Ir := [⟨(some 17), none, .mov (.t 5)⟩,
  ⟨(some 4), none, .mov (.t 17)⟩]
@[simp] def c_slices_IndexFunc_Write_r6 : List Ir := [⟨(some 18), none, .bin .add 3 (.t 8) (.c (.int .i64 1))⟩,
  ⟨(some 8), none, .mov (.t 18)⟩]
def c_slices_IndexFunc_Write_l7 : IC := (.seq (.reg c_slices_IndexFunc_Write_r2) (.seq (.cond (.t 9) .skip (.exit 0)) (.seq (.block 1 (.seq (.reg c_slices_IndexFunc_Write_r3) (.seq (.reg c_slices_IndexFunc_Write_r4) (.cond (.t 16) (.seq (.reg c_slices_IndexFunc_Write_r5) .ret) .skip)))) (.reg c_slices_IndexFunc_Write_r6))))
@[simp] def c_slices_IndexFunc_Write_r8 : List Ir := [⟨(some 4), none, .mov (.c (.int .i64 (-1)))⟩]
@[simp] def c_slices_IndexFunc_Write : IFn := ⟨(.seq (.reg c_slices_IndexFunc_Write_r0) (.seq (.seq (.reg c_slices_IndexFunc_Write_r1) (.block 0 (.loop c_slices_IndexFunc_Write_l7))) (.seq (.reg c_slices_IndexFunc_Write_r8) .ret))), 19, [.tmp 4]⟩

theorem fc_slices_IndexFunc_Write : fnAt Try.prog f_slices_IndexFunc_Write = some c_slices_IndexFunc_Write := by kernel_rfl
@[simp] def c_math_bits_Mul_r0 : List Ir := [⟨(some 4), none, .mov (.c (.int .u64 0))⟩,
  ⟨(some 5), none, .mov (.c (.int .u64 0))⟩]
@[simp] def c_math_bits_Mul_r1 : List Ir := [⟨(some 11), none, .mov (.t 0)⟩,
  ⟨(some 12), none, .ii .u32 (.t 11)⟩,
  ⟨(some 13), none, .mov (.t 1)⟩,
  ⟨(some 14), none, .ii .u32 (.t 13)⟩,
  ⟨(some 15), none, .call f_math_bits_Mul32 [(.t 12), (.t 14)]⟩,
  ⟨(some 10), none, .mov (.t 15)⟩,
  ⟨(some 16), none, .ext 0 (.t 10)⟩,
  ⟨(some 17), none, .ext 1 (.t 10)⟩,
  ⟨(some 6), none, .mov (.t 16)⟩,
  ⟨(some 7), none, .mov (.t 17)⟩]
@[simp] def c_math_bits_Mul_r2 : List Ir := [⟨(some 18), none, .mov (.t 6)⟩,
  ⟨(some 19), none, .ii .u64 (.t 18)⟩,
  ⟨(some 20), none, .mov (.t 7)⟩,
  ⟨(some 21), none, .ii .u64 (.t 20)⟩,
  ⟨(some 4), none, .mov (.t 19)⟩,
  ⟨(some 5), none, .mov (.t 21)⟩]
@[simp] def c_math_bits_Mul_r3 : List Ir := [⟨(some 23), none, .mov (.t 0)⟩,
  ⟨(some 24), none, .mov (.t 1)⟩,
  ⟨(some 25), none, .call f_math_bits_Mul64 [(.t 23), (.t 24)]⟩,
  ⟨(some 22), none, .mov (.t 25)⟩,
  ⟨(some 26), none, .ext 0 (.t 22)⟩,
  ⟨(some 27), none, .ext 1 (.t 22)⟩,
  ⟨(some 8), none, .mov (.t 26)⟩,
  ⟨(some 9), none, .mov (.t 27)⟩]
@[simp] def c_math_bits_Mul_r4 : List Ir := [⟨(some 28), none, .mov (.t 8)⟩,
  ⟨(some 29), none, .mov (.t 9)⟩,
  ⟨(some 4), none, .mov (.t 28)⟩,
  ⟨(some 5), none, .mov (.t 29)⟩]
@[simp] def c_math_bits_Mul : IFn := ⟨(.seq (.reg c_math_bits_Mul_r0) (.seq (.cond (.c (.bool false)) (.seq (.reg c_math_bits_Mul_r1) (.seq (.reg c_math_bits_Mul_r2) .ret)) .skip) (.seq (.reg c_math_bits_Mul_r3) (.seq (.reg c_math_bits_Mul_r4) .ret)))), 30, [.tmp 4, .tmp 5]⟩

theorem fc_math_bits_Mul : fnAt Try.prog f_math_bits_Mul = some c_math_bits_Mul := by kernel_rfl
@[simp] def c_record_Put_r0 : List Ir := [⟨(some 1), none, .box 4 (.t 0)⟩,
  ⟨(some 2), none, .mov (.c (.string ⟨#[]⟩))⟩,
  ⟨(some 3), none, .mov (.c (.int .i64 0))⟩]
@[simp] def c_record_Put_r1 : List Ir := [⟨(some 4), none, .ldn 4 (.t 1)⟩,
  ⟨(some 5), none, .call f_record_May [(.t 4)]⟩,
  ⟨(some 6), none, .un .not (.t 5)⟩]
@[simp] def c_record_Put_r2 : List Ir := [⟨(some 2), none, .mov (.c (.string ⟨#[]⟩))⟩,
  ⟨(some 3), none, .mov (.c (.int .i64 300))⟩]
@[simp] def c_record_Put_r3 : List Ir := [⟨(some 7), none, .fadr 0 (.t 1)⟩,
  ⟨(some 8), none, .ld (.t 7)⟩,
  ⟨(some 10), none, .fadr 1 (.t 1)⟩,
  ⟨(some 11), none, .ld (.t 10)⟩,
  ⟨(some 12), none, .ii .u8 (.t 11)⟩,
  ⟨(some 13), none, .fadr 2 (.t 1)⟩,
  ⟨(some 14), none, .ld (.t 13)⟩,
  ⟨(some 15), none, .ii .u8 (.t 14)⟩,
  ⟨(some 16), none, .fadr 3 (.t 1)⟩,
  ⟨(some 17), none, .ld (.t 16)⟩,
  ⟨(some 18), none, .lenS (.t 17)⟩,
  ⟨(some 19), none, .ii .u8 (.t 18)⟩,
  ⟨(some 20), none, .mkrow 1 4 [(.int .u8 0), (.int .u8 0), (.int .u8 0), (.int .u8 0)] [(0, (1, (.t 12))), (1, (1, (.t 15))), (2, (1, (.t 19))), (3, (1, (.c (.int .u8 0))))]⟩,
  ⟨(some 21), none, .b2s (.t 20)⟩,
  ⟨(some 23), none, .fadr 3 (.t 1)⟩,
  ⟨(some 24), none, .ld (.t 23)⟩,
  ⟨(some 9), none, .call f_record_Four [(.t 8)]⟩,
  ⟨(some 22), none, .bin .add 9 (.t 9) (.t 21)⟩,
  ⟨(some 25), none, .bin .add 9 (.t 22) (.t 24)⟩,
  ⟨(some 26), none, .call f_record_Fill [(.t 25)]⟩,
  ⟨(some 2), none, .mov (.t 26)⟩,
  ⟨(some 3), none, .mov (.c (.int .i64 0))⟩]
@[simp] def c_record_Put : IFn := ⟨(.seq (.reg c_record_Put_r0) (.seq (.seq (.reg c_record_Put_r1) (.cond (.t 6) (.seq (.reg c_record_Put_r2) .ret) .skip)) (.seq (.regd c_record_Put_r3 [(3, 16), (6, 16), (9, 16), (13, 16), (15, 16)]) .ret))), 27, [.tmp 2, .tmp 3]⟩

theorem fc_record_Put : fnAt Try.prog f_record_Put = some c_record_Put := by kernel_rfl
@[simp] def c_plan_steps_write_r0 : List Ir := [⟨(some 9), none, .mov (.t 2)⟩,
  ⟨(some 10), none, .call f_pair_Put [(.t 9)]⟩,
  ⟨(some 8), none, .mov (.t 10)⟩,
  ⟨(some 11), none, .ext 0 (.t 8)⟩,
  ⟨(some 12), none, .ext 1 (.t 8)⟩,
  ⟨(some 6), none, .mov (.t 11)⟩,
  ⟨(some 7), none, .mov (.t 12)⟩]
@[simp] def c_plan_steps_write_r1 : List Ir := [⟨(some 13), none, .mov (.t 0)⟩,
  ⟨(some 14), none, .mov (.t 0)⟩,
  ⟨(some 15), none, .nilck (.t 14)⟩,
  ⟨(some 16), none, .ld (.t 15)⟩,
  ⟨(some 17), none, .mov (.t 1)⟩,
  ⟨(some 18), none, .mov (.t 6)⟩,
  ⟨(some 19), none, .build [(.int .i64 0), (.string ⟨#[]⟩)] [(0, (1, (.t 17))), (1, (1, (.t 18)))]⟩,
  ⟨(some 20), none, .build [(.bool false), (.int .i64 0), (.string ⟨#[]⟩)] [(1, (2, (.t 19)))]⟩,
  ⟨(some 21), none, .mkrow 3 1 [(.bool false), (.int .i64 0), (.string ⟨#[]⟩)] [(0, (3, (.t 20)))]⟩,
  ⟨(some 22), none, .app 3 32 (.t 16) (.t 21)⟩,
  ⟨(some 23), none, .nilck (.t 13)⟩,
  ⟨none, none, .st 1 (.t 23) (.t 22)⟩]
@[simp] def c_plan_steps_write : IFn := ⟨(.seq (.reg c_plan_steps_write_r0) (.reg c_plan_steps_write_r1)), 24, []⟩

theorem fc_plan_steps_write : fnAt Try.prog f_plan_steps_write = some c_plan_steps_write := by kernel_rfl
@[simp] def c_ref1_RecordMay_r0 : List Ir := [⟨(some 1), none, .box 4 (.t 0)⟩,
  ⟨(some 2), none, .mov (.c (.bool false))⟩]
@[simp] def c_ref1_RecordMay_r1 : List Ir := [⟨(some 3), none, .fadr 0 (.t 1)⟩,
  ⟨(some 4), none, .ld (.t 3)⟩,
  ⟨(some 5), none, .call f_ref1_seqMay [(.t 4)]⟩,
  ⟨(some 6), none, .un .not (.t 5)⟩,
  ⟨(some 7), none, .mov (.t 6)⟩,
  ⟨(some 8), (some (7, false)), .fadr 1 (.t 1)⟩,
  ⟨(some 9), (some (7, false)), .ld (.t 8)⟩,
  ⟨(some 10), (some (7, false)), .bin .lss 3 (.t 9) (.c (.int .i64 0))⟩,
  ⟨(some 11), none, .pick (.t 7) (.c (.bool true)) (.t 10)⟩,
  ⟨(some 12), none, .mov (.t 11)⟩,
  ⟨(some 13), (some (12, false)), .fadr 1 (.t 1)⟩,
  ⟨(some 14), (some (12, false)), .ld (.t 13)⟩,
  ⟨(some 15), (some (12, false)), .bin .geq 3 (.t 14) (.c (.int .i64 48))⟩,
  ⟨(some 16), none, .pick (.t 12) (.c (.bool true)) (.t 15)⟩,
  ⟨(some 17), none, .mov (.t 16)⟩,
  ⟨(some 18), (some (17, false)), .fadr 2 (.t 1)⟩,
  ⟨(some 19), (some (17, false)), .ld (.t 18)⟩,
  ⟨(some 20), (some (17, false)), .bin .lss 3 (.t 19) (.c (.int .i64 0))⟩,
  ⟨(some 21), none, .pick (.t 17) (.c (.bool true)) (.t 20)⟩,
  ⟨(some 22), none, .mov (.t 21)⟩,
  ⟨(some 23), (some (22, false)), .fadr 2 (.t 1)⟩,
  ⟨(some 24), (some (22, false)), .ld (.t 23)⟩,
  ⟨(some 25), (some (22, false)), .bin .gtr 3 (.t 24) (.c (.int .i64 4))⟩,
  ⟨(some 26), none, .pick (.t 22) (.c (.bool true)) (.t 25)⟩,
  ⟨(some 27), none, .mov (.t 26)⟩,
  ⟨(some 28), (some (27, false)), .fadr 3 (.t 1)⟩,
  ⟨(some 29), (some (27, false)), .ld (.t 28)⟩,
  ⟨(some 30), (some (27, false)), .lenS (.t 29)⟩,
  ⟨(some 31), (some (27, false)), .bin .gtr 3 (.t 30) (.c (.int .i64 24))⟩,
  ⟨(some 32), none, .pick (.t 27) (.c (.bool true)) (.t 31)⟩]
@[simp] def c_ref1_RecordMay_r2 : List Ir := [⟨(some 2), none, .mov (.c (.bool false))⟩]
@[simp] def c_ref1_RecordMay_r3 : List Ir := [⟨(some 33), none, .fadr 2 (.t 1)⟩,
  ⟨(some 34), none, .ld (.t 33)⟩,
  ⟨(some 35), none, .bin .lss 3 (.t 34) (.c (.int .i64 4))⟩,
  ⟨(some 36), none, .mov (.t 35)⟩,
  ⟨(some 37), (some (36, false)), .fadr 1 (.t 1)⟩,
  ⟨(some 38), (some (36, false)), .ld (.t 37)⟩,
  ⟨(some 39), (some (36, false)), .bin .eql 3 (.t 38) (.c (.int .i64 0))⟩,
  ⟨(some 40), (some (36, false)), .mov (.t 39)⟩,
  ⟨(some 41), (some (40, true)), .fadr 3 (.t 1)⟩,
  ⟨(some 42), (some (40, true)), .ld (.t 41)⟩,
  ⟨(some 43), (some (40, true)), .bin .eql 9 (.t 42) (.c (.string ⟨#[]⟩))⟩,
  ⟨(some 44), (some (36, false)), .pick (.t 40) (.t 43) (.c (.bool false))⟩,
  ⟨(some 45), none, .pick (.t 36) (.c (.bool true)) (.t 44)⟩,
  ⟨(some 2), none, .mov (.t 45)⟩]
@[simp] def c_ref1_RecordMay : IFn := ⟨(.seq (.reg c_ref1_RecordMay_r0) (.seq (.seq (.reg c_ref1_RecordMay_r1) (.cond (.t 32) (.seq (.reg c_ref1_RecordMay_r2) .ret) .skip)) (.seq (.reg c_ref1_RecordMay_r3) .ret))), 46, [.tmp 2]⟩

theorem fc_ref1_RecordMay : fnAt Try.prog f_ref1_RecordMay = some c_ref1_RecordMay := by kernel_rfl
@[simp] def c_ref1_Num_r0 : List Ir := [⟨(some 2), none, .mov (.c (.string ⟨#[]⟩))⟩]
@[simp] def c_ref1_Num_r1 : List Ir := [⟨(some 3), none, .mov (.t 0)⟩,
  ⟨(some 4), none, .bin .shr 3 (.t 3) (.c (.int .u64 24))⟩,
  ⟨(some 5), none, .ii .u8 (.t 4)⟩,
  ⟨(some 6), none, .mov (.t 0)⟩,
  ⟨(some 7), none, .bin .shr 3 (.t 6) (.c (.int .u64 16))⟩,
  ⟨(some 8), none, .ii .u8 (.t 7)⟩,
  ⟨(some 9), none, .mov (.t 0)⟩,
  ⟨(some 10), none, .bin .shr 3 (.t 9) (.c (.int .u64 8))⟩,
  ⟨(some 11), none, .ii .u8 (.t 10)⟩,
  ⟨(some 12), none, .mov (.t 0)⟩,
  ⟨(some 13), none, .ii .u8 (.t 12)⟩,
  ⟨(some 14), none, .mkrow 1 4 [(.int .u8 0), (.int .u8 0), (.int .u8 0), (.int .u8 0)] [(0, (1, (.t 5))), (1, (1, (.t 8))), (2, (1, (.t 11))), (3, (1, (.t 13)))]⟩,
  ⟨(some 15), none, .b2s (.t 14)⟩,
  ⟨(some 2), none, .mov (.t 15)⟩]
@[simp] def c_ref1_Num : IFn := ⟨(.seq (.reg c_ref1_Num_r0) (.seq (.reg c_ref1_Num_r1) .ret)), 16, [.tmp 2]⟩

theorem fc_ref1_Num : fnAt Try.prog f_ref1_Num = some c_ref1_Num := by kernel_rfl
@[simp] def c_ref1_PutHead_r0 : List Ir := [⟨(some 1), none, .box 2 (.t 0)⟩,
  ⟨(some 2), none, .mov (.c (.string ⟨#[]⟩))⟩,
  ⟨(some 3), none, .mov (.c (.int .i64 0))⟩]
@[simp] def c_ref1_PutHead_r1 : List Ir := [⟨(some 4), none, .ldn 2 (.t 1)⟩,
  ⟨(some 5), none, .call f_ref1_HeadMay [(.t 4)]⟩,
  ⟨(some 6), none, .un .not (.t 5)⟩]
@[simp] def c_ref1_PutHead_r2 : List Ir := [⟨(some 2), none, .mov (.c (.string ⟨#[]⟩))⟩,
  ⟨(some 3), none, .mov (.c (.int .i64 500))⟩]
@[simp] def c_ref1_PutHead_r3 : List Ir := [⟨(some 7), none, .fadr 0 (.t 1)⟩,
  ⟨(some 8), none, .ld (.t 7)⟩,
  ⟨(some 11), none, .fadr 1 (.t 1)⟩,
  ⟨(some 12), none, .ld (.t 11)⟩,
  ⟨(some 9), none, .call f_ref1_Num [(.t 8)]⟩,
  ⟨(some 10), none, .bin .add 9 (.c (.string ⟨#[99, 114, 121, 111]⟩)) (.t 9)⟩,
  ⟨(some 13), none, .call f_ref1_Num [(.t 12)]⟩,
  ⟨(some 14), none, .bin .add 9 (.t 10) (.t 13)⟩,
  ⟨(some 15), none, .call f_ref1_zeros [(.c (.int .i64 20))]⟩,
  ⟨(some 16), none, .bin .add 9 (.t 14) (.t 15)⟩,
  ⟨(some 2), none, .mov (.t 16)⟩,
  ⟨(some 3), none, .mov (.c (.int .i64 0))⟩]
@[simp] def c_ref1_PutHead : IFn := ⟨(.seq (.reg c_ref1_PutHead_r0) (.seq (.seq (.reg c_ref1_PutHead_r1) (.cond (.t 6) (.seq (.reg c_ref1_PutHead_r2) .ret) .skip)) (.seq (.regd c_ref1_PutHead_r3 [(3, 4)]) .ret))), 17, [.tmp 2, .tmp 3]⟩

theorem fc_ref1_PutHead : fnAt Try.prog f_ref1_PutHead = some c_ref1_PutHead := by kernel_rfl
@[simp] def c_record_Page_r0 : List Ir := [⟨(some 2), none, .mov (.c (.bool false))⟩]
@[simp] def c_record_Page_r1 : List Ir := [⟨(some 3), none, .mov (.t 0)⟩,
  ⟨(some 4), none, .bin .geq 3 (.t 3) (.c (.int .i64 0))⟩,
  ⟨(some 5), none, .mov (.t 4)⟩,
  ⟨(some 6), (some (5, true)), .mov (.t 0)⟩,
  ⟨(some 7), (some (5, true)), .bin .lss 3 (.t 6) (.c (.int .i64 48))⟩,
  ⟨(some 8), none, .pick (.t 5) (.t 7) (.c (.bool false))⟩,
  ⟨(some 2), none, .mov (.t 8)⟩]
@[simp] def c_record_Page : IFn := ⟨(.seq (.reg c_record_Page_r0) (.seq (.reg c_record_Page_r1) .ret)), 9, [.tmp 2]⟩

theorem fc_record_Page : fnAt Try.prog f_record_Page = some c_record_Page := by kernel_rfl
@[simp] def c_ref1_sectorHead_r0 : List Ir := [⟨(some 2), none, .new [(.int .i64 0), (.int .i64 0)]⟩,
  ⟨(some 3), none, .mov (.c (.bool false))⟩]
@[simp] def c_ref1_sectorHead_r1 : List Ir := [⟨(some 9), none, .mov (.t 0)⟩,
  ⟨(some 10), none, .call f_ref1_GetPair [(.t 9)]⟩,
  ⟨(some 8), none, .mov (.t 10)⟩,
  ⟨(some 11), none, .ext 0 (.t 8)⟩,
  ⟨(some 12), none, .ext 1 (.t 8)⟩,
  ⟨(some 4), none, .mov (.t 11)⟩,
  ⟨(some 5), none, .mov (.t 12)⟩]
@[simp] def c_ref1_sectorHead_r2 : List Ir := [⟨(some 14), none, .mov (.t 4)⟩,
  ⟨(some 15), none, .call f_ref1_GetHead [(.t 14)]⟩,
  ⟨(some 13), none, .mov (.t 15)⟩,
  ⟨(some 16), none, .ext 0 (.t 13)⟩,
  ⟨(some 17), none, .ext 1 (.t 13)⟩,
  ⟨(some 6), none, .new [(.int .i64 0), (.int .i64 0)]⟩,
  ⟨none, none, .st 2 (.t 6) (.t 16)⟩,
  ⟨(some 7), none, .mov (.t 17)⟩]
@[simp] def c_ref1_sectorHead_r3 : List Ir := [⟨(some 18), none, .ldn 2 (.t 6)⟩,
  ⟨(some 19), none, .mov (.t 7)⟩,
  ⟨(some 20), none, .bin .eql 3 (.t 19) (.c (.int .i64 0))⟩,
  ⟨none, none, .st 2 (.t 2) (.t 18)⟩,
  ⟨(some 3), none, .mov (.t 20)⟩]
@[simp] def c_ref1_sectorHead : IFn := ⟨(.seq (.reg c_ref1_sectorHead_r0) (.seq (.reg c_ref1_sectorHead_r1) (.seq (.reg c_ref1_sectorHead_r2) (.seq (.reg c_ref1_sectorHead_r3) .ret)))), 21, [.ldn 2 2, .tmp 3]⟩

theorem fc_ref1_sectorHead : fnAt Try.prog f_ref1_sectorHead = some c_ref1_sectorHead := by kernel_rfl
@[simp] def c_ref1_GetRecord_r0 : List Ir := [⟨(some 2), none, .new [(.int .i64 0), (.int .i64 0), (.int .i64 0), (.string ⟨#[]⟩)]⟩,
  ⟨(some 3), none, .mov (.c (.int .i64 0))⟩]
@[simp] def c_ref1_GetRecord_r1 : List Ir := [⟨(some 7), none, .mov (.t 0)⟩,
  ⟨(some 8), none, .lenS (.t 7)⟩,
  ⟨(some 9), none, .bin .neq 3 (.t 8) (.c (.int .i64 32))⟩,
  ⟨(some 10), none, .mov (.t 9)⟩,
  ⟨(some 11), (some (10, false)), .mov (.t 0)⟩,
  ⟨(some 12), (some (10, false)), .idxS (.t 11) (.c (.int .i64 6))⟩,
  ⟨(some 13), (some (10, false)), .ii .i64 (.t 12)⟩,
  ⟨(some 14), (some (10, false)), .bin .gtr 3 (.t 13) (.c (.int .i64 24))⟩,
  ⟨(some 15), none, .pick (.t 10) (.c (.bool true)) (.t 14)⟩]
@[simp] def c_ref1_GetRecord_r2 : List Ir := [⟨(some 16), none, .build [(.int .i64 0), (.int .i64 0), (.int .i64 0), (.string ⟨#[]⟩)] []⟩,
  ⟨none, none, .st 4 (.t 2) (.t 16)⟩,
  ⟨(some 3), none, .mov (.c (.int .i64 300))⟩]
@[simp] def c_ref1_GetRecord_r3 : List Ir := [⟨(some 17), none, .mov (.t 0)⟩,
  ⟨(some 19), none, .mov (.t 0)⟩,
  ⟨(some 20), none, .idxS (.t 19) (.c (.int .i64 4))⟩,
  ⟨(some 21), none, .ii .i64 (.t 20)⟩,
  ⟨(some 22), none, .mov (.t 0)⟩,
  ⟨(some 23), none, .idxS (.t 22) (.c (.int .i64 5))⟩,
  ⟨(some 24), none, .ii .i64 (.t 23)⟩,
  ⟨(some 25), none, .mov (.t 0)⟩,
  ⟨(some 26), none, .mov (.t 0)⟩,
  ⟨(some 27), none, .idxS (.t 26) (.c (.int .i64 6))⟩,
  ⟨(some 28), none, .ii .i64 (.t 27)⟩,
  ⟨(some 29), none, .bin .add 3 (.c (.int .i64 8)) (.t 28)⟩,
  ⟨(some 30), none, .sls (.t 25) (some (.c (.int .i64 8))) (some (.t 29))⟩,
  ⟨(some 4), none, .new [(.int .i64 0), (.int .i64 0), (.int .i64 0), (.string ⟨#[]⟩)]⟩,
  ⟨(some 18), none, .call f_ref1_Of [(.t 17)]⟩,
  ⟨(some 31), none, .build [(.int .i64 0), (.int .i64 0), (.int .i64 0), (.string ⟨#[]⟩)] [(0, (1, (.t 18))), (1, (1, (.t 21))), (2, (1, (.t 24))), (3, (1, (.t 30)))]⟩,
  ⟨none, none, .st 4 (.t 4) (.t 31)⟩]
@[simp] def c_ref1_GetRecord_r4 : List Ir := [⟨(some 33), none, .ldn 4 (.t 4)⟩,
  ⟨(some 34), none, .call f_ref1_PutRecord [(.t 33)]⟩,
  ⟨(some 32), none, .mov (.t 34)⟩,
  ⟨(some 35), none, .ext 0 (.t 32)⟩,
  ⟨(some 36), none, .ext 1 (.t 32)⟩,
  ⟨(some 5), none, .mov (.t 35)⟩,
  ⟨(some 6), none, .mov (.t 36)⟩]
@[simp] def c_ref1_GetRecord_r5 : List Ir := [⟨(some 37), none, .mov (.t 6)⟩,
  ⟨(some 38), none, .bin .neq 3 (.t 37) (.c (.int .i64 0))⟩,
  ⟨(some 39), none, .mov (.t 38)⟩,
  ⟨(some 40), (some (39, false)), .mov (.t 5)⟩,
  ⟨(some 41), (some (39, false)), .mov (.t 0)⟩,
  ⟨(some 42), (some (39, false)), .bin .neq 9 (.t 40) (.t 41)⟩,
  ⟨(some 43), none, .pick (.t 39) (.c (.bool true)) (.t 42)⟩]
@[simp] def c_ref1_GetRecord_r6 : List Ir := [⟨(some 44), none, .build [(.int .i64 0), (.int .i64 0), (.int .i64 0), (.string ⟨#[]⟩)] []⟩,
  ⟨none, none, .st 4 (.t 2) (.t 44)⟩,
  ⟨(some 3), none, .mov (.c (.int .i64 300))⟩]
@[simp] def c_ref1_GetRecord_r7 : List Ir := [⟨(some 45), none, .ldn 4 (.t 4)⟩,
  ⟨none, none, .st 4 (.t 2) (.t 45)⟩,
  ⟨(some 3), none, .mov (.c (.int .i64 0))⟩]
@[simp] def c_ref1_GetRecord : IFn := ⟨(.seq (.reg c_ref1_GetRecord_r0) (.seq (.seq (.reg c_ref1_GetRecord_r1) (.cond (.t 15) (.seq (.reg c_ref1_GetRecord_r2) .ret) .skip)) (.seq (.regd c_ref1_GetRecord_r3 []) (.seq (.reg c_ref1_GetRecord_r4) (.seq (.seq (.reg c_ref1_GetRecord_r5) (.cond (.t 43) (.seq (.reg c_ref1_GetRecord_r6) .ret) .skip)) (.seq (.reg c_ref1_GetRecord_r7) .ret)))))), 46, [.ldn 2 4, .tmp 3]⟩

theorem fc_ref1_GetRecord : fnAt Try.prog f_ref1_GetRecord = some c_ref1_GetRecord := by kernel_rfl
@[simp] def c_ref1_one_r0 : List Ir := [⟨(some 4), none, .mov (.c (.slice none 0 0))⟩,
  ⟨(some 5), none, .mov (.c (.int .i64 0))⟩]
@[simp] def c_ref1_one_r1 : List Ir := [⟨(some 6), none, .mov (.c (.slice none 0 0))⟩]
@[simp] def c_ref1_one_r2 : List Ir := [⟨(some 7), none, .mov (.c (.int .i64 0))⟩]
@[simp] def c_ref1_one_r3 : List Ir := [⟨(some 10), none, .mov (.t 7)⟩,
  ⟨(some 11), none, .mov (.t 0)⟩,
  ⟨(some 12), none, .lenV (.t 11)⟩,
  ⟨(some 13), none, .bin .lss 3 (.t 10) (.t 12)⟩]
@[simp] def c_ref1_one_r4 : List Ir := [⟨(some 17), none, .mov (.t 0)⟩,
  ⟨(some 18), none, .mov (.t 7)⟩,
  ⟨(some 19), none, .iadrS 1 (.t 17) (.t 18)⟩,
  ⟨(some 20), none, .ld (.t 19)⟩,
  ⟨(some 21), none, .call f_ref1_GetRecord [(.t 20)]⟩,
  ⟨(some 16), none, .mov (.t 21)⟩,
  ⟨(some 22), none, .ext 0 (.t 16)⟩,
  ⟨(some 23), none, .ext 1 (.t 16)⟩,
  ⟨(some 8), none, .new [(.int .i64 0), (.int .i64 0), (.int .i64 0), (.string ⟨#[]⟩)]⟩,
  ⟨none, none, .st 4 (.t 8) (.t 22)⟩,
  ⟨(some 9), none, .mov (.t 23)⟩]
@[simp] def c_ref1_one_r5 : List Ir := [⟨(some 24), none, .mov (.t 9)⟩,
  ⟨(some 25), none, .bin .neq 3 (.t 24) (.c (.int .i64 0))⟩,
  ⟨(some 26), none, .mov (.t 25)⟩,
  ⟨(some 27), (some (26, false)), .fadr 0 (.t 8)⟩,
  ⟨(some 28), (some (26, false)), .ld (.t 27)⟩,
  ⟨(some 29), (some (26, false)), .mov (.t 1)⟩,
  ⟨(some 30), (some (26, false)), .mov (.t 7)⟩,
  ⟨(some 31), (some (26, false)), .bin .add 3 (.t 29) (.t 30)⟩,
  ⟨(some 32), (some (26, false)), .bin .neq 3 (.t 28) (.t 31)⟩,
  ⟨(some 33), none, .pick (.t 26) (.c (.bool true)) (.t 32)⟩]
@[simp] def c_ref1_one_r6 : List Ir := [⟨(some 4), none, .mov (.c (.slice none 0 0))⟩,
  ⟨(some 5), none, .mov (.c (.int .i64 0))⟩]
@[simp] def c_ref1_one_r7 : List Ir := [⟨(some 34), none, .fadr 2 (.t 8)⟩,
  ⟨(some 35), none, .ld (.t 34)⟩,
  ⟨(some 36), none, .bin .eql 3 (.t 35) (.c (.int .i64 4))⟩,
  ⟨(some 37), none, .mov (.t 36)⟩,
  ⟨(some 38), (some (37, true)), .mov (.t 7)⟩,
  ⟨(some 39), (some (37, true)), .bin .rem 3 (.t 38) (.c (.int .i64 4))⟩,
  ⟨(some 40), (some (37, true)), .bin .eql 3 (.t 39) (.c (.int .i64 0))⟩,
  ⟨(some 41), none, .pick (.t 37) (.t 40) (.c (.bool false))⟩]
@[simp] def c_ref1_one_r8 : List Ir := [⟨(some 42), none, .mov (.t 6)⟩,
  ⟨(some 43), none, .mov (.t 7)⟩,
  ⟨(some 44), none, .bin .add 3 (.t 43) (.c (.int .i64 1))⟩,
  ⟨(some 4), none, .mov (.t 42)⟩,
  ⟨(some 5), none, .mov (.t 44)⟩]
@[simp] def c_ref1_one_r9 : List Ir := [⟨(some 45), none, .fadr 2 (.t 8)⟩,
  ⟨(some 46), none, .ld (.t 45)⟩,
  ⟨(some 47), none, .mov (.t 7)⟩,
  ⟨(some 48), none, .bin .rem 3 (.t 47) (.c (.int .i64 4))⟩,
  ⟨(some 49), none, .bin .neq 3 (.t 46) (.t 48)⟩]
@[simp] def c_ref1_one_r10 : List Ir := [⟨(some 4), none, .mov (.c (.slice none 0 0))⟩,
  ⟨(some 5), none, .mov (.c (.int .i64 0))⟩]
@[simp] def c_ref1_one_r11 : List Ir := [⟨(some 67), none, .fadr 2 (.t 8)⟩,
  ⟨(some 68), none, .ld (.t 67)⟩,
  ⟨(some 69), none, .bin .gtr 3 (.t 68) (.c (.int .i64 0))⟩,
  ⟨(some 70), none, .mov (.t 69)⟩,
  ⟨(some 71), (some (70, true)), .fadr 1 (.t 8)⟩,
  ⟨(some 72), (some (70, true)), .ld (.t 71)⟩,
  ⟨(some 73), (some (70, true)), .mov (.t 6)⟩,
  ⟨(some 74), (some (70, true)), .mov (.t 6)⟩,
  ⟨(some 75), (some (70, true)), .lenV (.t 74)⟩,
  ⟨(some 76), (some (70, true)), .bin .sub 3 (.t 75) (.c (.int .i64 1))⟩,
  ⟨(some 77), (some (70, true)), .iadrS 2 (.t 73) (.t 76)⟩,
  ⟨(some 78), (some (70, true)), .fadr 0 (.t 77)⟩,
  ⟨(some 79), (some (70, true)), .ld (.t 78)⟩,
  ⟨(some 80), (some (70, true)), .bin .neq 3 (.t 72) (.t 79)⟩,
  ⟨(some 81), none, .pick (.t 70) (.t 80) (.c (.bool false))⟩,
  ⟨(some 82), none, .mov (.t 81)⟩,
  ⟨(some 83), (some (82, false)), .fadr 2 (.t 8)⟩,
  ⟨(some 84), (some (82, false)), .ld (.t 83)⟩,
  ⟨(some 85), (some (82, false)), .bin .eql 3 (.t 84) (.c (.int .i64 0))⟩,
  ⟨(some 86), (some (82, false)), .mov (.t 85)⟩,
  ⟨(some 87), (some (86, true)), .mov (.t 6)⟩,
  ⟨(some 88), (some (86, true)), .lenV (.t 87)⟩,
  ⟨(some 89), (some (86, true)), .bin .gtr 3 (.t 88) (.c (.int .i64 0))⟩,
  ⟨(some 90), (some (82, false)), .pick (.t 86) (.t 89) (.c (.bool false))⟩,
  ⟨(some 91), (some (82, false)), .mov (.t 90)⟩,
  ⟨(some 92), (some (91, true)), .fadr 1 (.t 8)⟩,
  ⟨(some 93), (some (91, true)), .ld (.t 92)⟩,
  ⟨(some 94), (some (91, true)), .mov (.t 6)⟩,
  ⟨(some 95), (some (91, true)), .mov (.t 6)⟩,
  ⟨(some 96), (some (91, true)), .lenV (.t 95)⟩,
  ⟨(some 97), (some (91, true)), .bin .sub 3 (.t 96) (.c (.int .i64 1))⟩,
  ⟨(some 98), (some (91, true)), .iadrS 2 (.t 94) (.t 97)⟩,
  ⟨(some 99), (some (91, true)), .fadr 0 (.t 98)⟩,
  ⟨(some 100), (some (91, true)), .ld (.t 99)⟩,
  ⟨(some 101), (some (91, true)), .bin .leq 3 (.t 93) (.t 100)⟩,
  ⟨(some 102), (some (82, false)), .pick (.t 91) (.t 101) (.c (.bool false))⟩,
  ⟨(some 103), none, .pick (.t 82) (.c (.bool true)) (.t 102)⟩,
  ⟨(some 66), none, .mov (.t 103)⟩]
@[simp] def c_ref1_one_r12 : List Ir := [⟨(some 4), none, .mov (.c (.slice none 0 0))⟩,
  ⟨(some 5), none, .mov (.c (.int .i64 0))⟩]
@[simp] def c_ref1_one_r13 : List Ir := [⟨(some 105), none, .fadr 2 (.t 8)⟩,
  ⟨(some 106), none, .ld (.t 105)⟩,
  ⟨(some 107), none, .bin .eql 3 (.t 106) (.c (.int .i64 0))⟩,
  ⟨(some 104), none, .mov (.t 107)⟩]
@[simp] def c_ref1_one_r14 : List Ir := [⟨(some 108), none, .mov (.t 6)⟩,
  ⟨(some 109), none, .fadr 1 (.t 8)⟩,
  ⟨(some 110), none, .ld (.t 109)⟩,
  ⟨(some 111), none, .fadr 3 (.t 8)⟩,
  ⟨(some 112), none, .ld (.t 111)⟩,
  ⟨(some 113), none, .build [(.int .i64 0), (.string ⟨#[]⟩)] [(0, (1, (.t 110))), (1, (1, (.t 112)))]⟩,
  ⟨(some 114), none, .mkrow 2 1 [(.int .i64 0), (.string ⟨#[]⟩)] [(0, (2, (.t 113)))]⟩,
  ⟨(some 115), none, .app 2 24 (.t 108) (.t 114)⟩,
  ⟨(some 6), none, .mov (.t 115)⟩]
@[simp] def c_ref1_one_r15 : List Ir := [⟨(some 117), none, .fadr 3 (.t 8)⟩,
  ⟨(some 118), none, .ld (.t 117)⟩,
  ⟨(some 119), none, .bin .neq 9 (.t 118) (.c (.string ⟨#[]⟩))⟩,
  ⟨(some 120), none, .mov (.t 119)⟩,
  ⟨(some 121), (some (120, true)), .mov (.t 6)⟩,
  ⟨(some 122), (some (120, true)), .mov (.t 6)⟩,
  ⟨(some 123), (some (120, true)), .lenV (.t 122)⟩,
  ⟨(some 124), (some (120, true)), .bin .sub 3 (.t 123) (.c (.int .i64 1))⟩,
  ⟨(some 125), (some (120, true)), .iadrS 2 (.t 121) (.t 124)⟩,
  ⟨(some 126), (some (120, true)), .fadr 1 (.t 125)⟩,
  ⟨(some 127), (some (120, true)), .ld (.t 126)⟩,
  ⟨(some 128), (some (120, true)), .lenS (.t 127)⟩,
  ⟨(some 129), (some (120, true)), .fadr 2 (.t 8)⟩,
  ⟨(some 130), (some (120, true)), .ld (.t 129)⟩,
  ⟨(some 131), (some (120, true)), .bin .mul 3 (.t 130) (.c (.int .i64 24))⟩,
  ⟨(some 132), (some (120, true)), .bin .neq 3 (.t 128) (.t 131)⟩,
  ⟨(some 133), none, .pick (.t 120) (.t 132) (.c (.bool false))⟩,
  ⟨(some 116), none, .mov (.t 133)⟩]
@[simp] def c_ref1_one_r16 : List Ir := [⟨(some 4), none, .mov (.c (.slice none 0 0))⟩,
  ⟨(some 5), none, .mov (.c (.int .i64 0))⟩]
@[simp] def c_ref1_one_r17 : List Ir := [⟨(some 50), none, .mov (.t 6)⟩,
  ⟨(some 51), none, .mov (.t 6)⟩,
  ⟨(some 52), none, .lenV (.t 51)⟩,
  ⟨(some 53), none, .bin .sub 3 (.t 52) (.c (.int .i64 1))⟩,
  ⟨(some 54), none, .mov (.t 6)⟩,
  ⟨(some 55), none, .mov (.t 6)⟩,
  ⟨(some 56), none, .lenV (.t 55)⟩,
  ⟨(some 57), none, .bin .sub 3 (.t 56) (.c (.int .i64 1))⟩,
  ⟨(some 58), none, .iadrS 2 (.t 54) (.t 57)⟩,
  ⟨(some 59), none, .fadr 1 (.t 58)⟩,
  ⟨(some 60), none, .ld (.t 59)⟩,
  ⟨(some 61), none, .fadr 3 (.t 8)⟩,
  ⟨(some 62), none, .ld (.t 61)⟩,
  ⟨(some 63), none, .bin .add 9 (.t 60) (.t 62)⟩,
  ⟨(some 64), none, .iadrS 2 (.t 50) (.t 53)⟩,
  ⟨(some 65), none, .fadr 1 (.t 64)⟩,
  ⟨none, none, .st 1 (.t 65) (.t 63)⟩]
@[simp] def c_ref1_one_r18 : List Ir := [⟨(some 14), none, .mov (.t 7)⟩,
  ⟨(some 15), none, .bin .add 3 (.t 14) (.c (.int .i64 1))⟩,
  ⟨(some 7), none, .mov (.t 15)⟩]
def c_ref1_one_l19 : IC := (.seq (.seq (.reg c_ref1_one_r3) (.cond (.t 13) .skip (.exit 0))) (.seq (.block 1 (.seq (.reg c_ref1_one_r4) (.seq (.seq (.reg c_ref1_one_r5) (.cond (.t 33) (.seq (.reg c_ref1_one_r6) .ret) .skip)) (.seq (.seq (.reg c_ref1_one_r7) (.cond (.t 41) (.seq (.reg c_ref1_one_r8) .ret) .skip)) (.seq (.seq (.reg c_ref1_one_r9) (.cond (.t 49) (.seq (.reg c_ref1_one_r10) .ret) .skip)) (.block 2 (.seq (.regd c_ref1_one_r11 []) (.cond (.t 66) (.seq (.reg c_ref1_one_r12) .ret) (.seq (.reg c_ref1_one_r13) (.cond (.t 104) (.reg c_ref1_one_r14) (.seq (.regd c_ref1_one_r15 []) (.cond (.t 116) (.seq (.reg c_ref1_one_r16) .ret) (.regd c_ref1_one_r17 []))))))))))))) (.reg c_ref1_one_r18)))
@[simp] def c_ref1_one_r20 : List Ir := [⟨(some 4), none, .mov (.c (.slice none 0 0))⟩,
  ⟨(some 5), none, .mov (.c (.int .i64 0))⟩]
@[simp] def c_ref1_one : IFn := ⟨(.seq (.reg c_ref1_one_r0) (.seq (.reg c_ref1_one_r1) (.seq (.seq (.reg c_ref1_one_r2) (.block 0 (.loop c_ref1_one_l19))) (.seq (.reg c_ref1_one_r20) .ret)))), 134, [.tmp 4, .tmp 5]⟩

theorem fc_ref1_one : fnAt Try.prog f_ref1_one = some c_ref1_one := by kernel_rfl
@[simp] def c_record_Get_r0 : List Ir := [⟨(some 2), none, .new [(.int .i64 0), (.int .i64 0), (.int .i64 0), (.string ⟨#[]⟩)]⟩,
  ⟨(some 3), none, .mov (.c (.int .i64 0))⟩]
@[simp] def c_record_Get_r1 : List Ir := [⟨(some 7), none, .mov (.t 0)⟩,
  ⟨(some 8), none, .lenS (.t 7)⟩,
  ⟨(some 9), none, .bin .neq 3 (.t 8) (.c (.int .i64 32))⟩,
  ⟨(some 10), none, .mov (.t 9)⟩,
  ⟨(some 11), (some (10, false)), .mov (.t 0)⟩,
  ⟨(some 12), (some (10, false)), .idxS (.t 11) (.c (.int .i64 6))⟩,
  ⟨(some 13), (some (10, false)), .ii .i64 (.t 12)⟩,
  ⟨(some 14), (some (10, false)), .bin .gtr 3 (.t 13) (.c (.int .i64 24))⟩,
  ⟨(some 15), none, .pick (.t 10) (.c (.bool true)) (.t 14)⟩]
@[simp] def c_record_Get_r2 : List Ir := [⟨(some 16), none, .build [(.int .i64 0), (.int .i64 0), (.int .i64 0), (.string ⟨#[]⟩)] []⟩,
  ⟨none, none, .st 4 (.t 2) (.t 16)⟩,
  ⟨(some 3), none, .mov (.c (.int .i64 300))⟩]
@[simp] def c_record_Get_r3 : List Ir := [⟨(some 17), none, .mov (.t 0)⟩,
  ⟨(some 19), none, .mov (.t 0)⟩,
  ⟨(some 20), none, .idxS (.t 19) (.c (.int .i64 4))⟩,
  ⟨(some 21), none, .ii .i64 (.t 20)⟩,
  ⟨(some 22), none, .mov (.t 0)⟩,
  ⟨(some 23), none, .idxS (.t 22) (.c (.int .i64 5))⟩,
  ⟨(some 24), none, .ii .i64 (.t 23)⟩,
  ⟨(some 25), none, .mov (.t 0)⟩,
  ⟨(some 26), none, .mov (.t 0)⟩,
  ⟨(some 27), none, .idxS (.t 26) (.c (.int .i64 6))⟩,
  ⟨(some 28), none, .ii .i64 (.t 27)⟩,
  ⟨(some 29), none, .bin .add 3 (.c (.int .i64 8)) (.t 28)⟩,
  ⟨(some 30), none, .sls (.t 25) (some (.c (.int .i64 8))) (some (.t 29))⟩,
  ⟨(some 4), none, .new [(.int .i64 0), (.int .i64 0), (.int .i64 0), (.string ⟨#[]⟩)]⟩,
  ⟨(some 18), none, .call f_record_Number [(.t 17)]⟩,
  ⟨(some 31), none, .build [(.int .i64 0), (.int .i64 0), (.int .i64 0), (.string ⟨#[]⟩)] [(0, (1, (.t 18))), (1, (1, (.t 21))), (2, (1, (.t 24))), (3, (1, (.t 30)))]⟩,
  ⟨none, none, .st 4 (.t 4) (.t 31)⟩]
@[simp] def c_record_Get_r4 : List Ir := [⟨(some 33), none, .ldn 4 (.t 4)⟩,
  ⟨(some 34), none, .call f_record_Put [(.t 33)]⟩,
  ⟨(some 32), none, .mov (.t 34)⟩,
  ⟨(some 35), none, .ext 0 (.t 32)⟩,
  ⟨(some 36), none, .ext 1 (.t 32)⟩,
  ⟨(some 5), none, .mov (.t 35)⟩,
  ⟨(some 6), none, .mov (.t 36)⟩]
@[simp] def c_record_Get_r5 : List Ir := [⟨(some 37), none, .mov (.t 6)⟩,
  ⟨(some 38), none, .bin .neq 31 (.t 37) (.c (.int .i64 0))⟩,
  ⟨(some 39), none, .mov (.t 38)⟩,
  ⟨(some 40), (some (39, false)), .mov (.t 5)⟩,
  ⟨(some 41), (some (39, false)), .mov (.t 0)⟩,
  ⟨(some 42), (some (39, false)), .bin .neq 9 (.t 40) (.t 41)⟩,
  ⟨(some 43), none, .pick (.t 39) (.c (.bool true)) (.t 42)⟩]
@[simp] def c_record_Get_r6 : List Ir := [⟨(some 44), none, .build [(.int .i64 0), (.int .i64 0), (.int .i64 0), (.string ⟨#[]⟩)] []⟩,
  ⟨none, none, .st 4 (.t 2) (.t 44)⟩,
  ⟨(some 3), none, .mov (.c (.int .i64 300))⟩]
@[simp] def c_record_Get_r7 : List Ir := [⟨(some 45), none, .ldn 4 (.t 4)⟩,
  ⟨none, none, .st 4 (.t 2) (.t 45)⟩,
  ⟨(some 3), none, .mov (.c (.int .i64 0))⟩]
@[simp] def c_record_Get : IFn := ⟨(.seq (.reg c_record_Get_r0) (.seq (.seq (.reg c_record_Get_r1) (.cond (.t 15) (.seq (.reg c_record_Get_r2) .ret) .skip)) (.seq (.regd c_record_Get_r3 []) (.seq (.seq (.reg c_record_Get_r4) (.seq (.reg c_record_Get_r5) (.cond (.t 43) (.seq (.reg c_record_Get_r6) .ret) .skip))) (.seq (.reg c_record_Get_r7) .ret))))), 46, [.ldn 2 4, .tmp 3]⟩

theorem fc_record_Get : fnAt Try.prog f_record_Get = some c_record_Get := by kernel_rfl
@[simp] def c_log_scanner_take_r0 : List Ir := [⟨(some 4), none, .box 4 (.t 1)⟩,
  ⟨(some 6), none, .mov (.c (.bool false))⟩]
@[simp] def c_log_scanner_take_r1 : List Ir := [⟨(some 8), none, .fadr 2 (.t 4)⟩,
  ⟨(some 9), none, .ld (.t 8)⟩,
  ⟨(some 10), none, .bin .eql 3 (.t 9) (.c (.int .i64 4))⟩]
@[simp] def c_log_scanner_take_r2 : List Ir := [⟨(some 11), none, .mov (.t 0)⟩,
  ⟨(some 12), none, .mov (.t 2)⟩,
  ⟨(some 13), none, .call f_log_scanner_commit [(.t 11), (.t 12)]⟩,
  ⟨(some 6), none, .mov (.t 13)⟩]
@[simp] def c_log_scanner_take_r3 : List Ir := [⟨(some 14), none, .fadr 2 (.t 4)⟩,
  ⟨(some 15), none, .ld (.t 14)⟩,
  ⟨(some 16), none, .mov (.t 0)⟩,
  ⟨(some 17), none, .nilck (.t 16)⟩,
  ⟨(some 18), none, .fadr 3 (.t 17)⟩,
  ⟨(some 19), none, .ld (.t 18)⟩,
  ⟨(some 20), none, .bin .neq 3 (.t 15) (.t 19)⟩]
@[simp] def c_log_scanner_take_r4 : List Ir := [⟨(some 6), none, .mov (.c (.bool false))⟩]
@[simp] def c_log_scanner_take_r5 : List Ir := [⟨(some 21), none, .mov (.t 0)⟩,
  ⟨(some 22), none, .nilck (.t 21)⟩,
  ⟨(some 23), none, .fadr 2 (.t 22)⟩,
  ⟨(some 24), none, .ld (.t 23)⟩,
  ⟨(some 25), none, .lenV (.t 24)⟩,
  ⟨(some 7), none, .mov (.t 25)⟩]
@[simp] def c_log_scanner_take_r6 : List Ir := [⟨(some 26), none, .fadr 2 (.t 4)⟩,
  ⟨(some 27), none, .ld (.t 26)⟩,
  ⟨(some 28), none, .bin .eql 3 (.t 27) (.c (.int .i64 0))⟩]
@[simp] def c_log_scanner_take_r7 : List Ir := [⟨(some 29), none, .mov (.t 7)⟩,
  ⟨(some 30), none, .bin .gtr 3 (.t 29) (.c (.int .i64 0))⟩,
  ⟨(some 31), none, .mov (.t 30)⟩,
  ⟨(some 32), (some (31, true)), .mov (.t 0)⟩,
  ⟨(some 33), (some (31, true)), .nilck (.t 32)⟩,
  ⟨(some 34), (some (31, true)), .fadr 2 (.t 33)⟩,
  ⟨(some 35), (some (31, true)), .ld (.t 34)⟩,
  ⟨(some 36), (some (31, true)), .mov (.t 7)⟩,
  ⟨(some 37), (some (31, true)), .bin .sub 3 (.t 36) (.c (.int .i64 1))⟩,
  ⟨(some 38), (some (31, true)), .iadrS 2 (.t 35) (.t 37)⟩,
  ⟨(some 39), (some (31, true)), .fadr 0 (.t 38)⟩,
  ⟨(some 40), (some (31, true)), .ld (.t 39)⟩,
  ⟨(some 41), (some (31, true)), .fadr 1 (.t 4)⟩,
  ⟨(some 42), (some (31, true)), .ld (.t 41)⟩,
  ⟨(some 43), (some (31, true)), .bin .geq 3 (.t 40) (.t 42)⟩,
  ⟨(some 44), none, .pick (.t 31) (.t 43) (.c (.bool false))⟩]
@[simp] def c_log_scanner_take_r8 : List Ir := [⟨(some 6), none, .mov (.c (.bool false))⟩]
@[simp] def c_log_scanner_take_r9 : List Ir := [⟨(some 45), none, .mov (.t 0)⟩,
  ⟨(some 46), none, .mov (.t 0)⟩,
  ⟨(some 47), none, .nilck (.t 46)⟩,
  ⟨(some 48), none, .fadr 2 (.t 47)⟩,
  ⟨(some 49), none, .ld (.t 48)⟩,
  ⟨(some 50), none, .fadr 1 (.t 4)⟩,
  ⟨(some 51), none, .ld (.t 50)⟩,
  ⟨(some 52), none, .build [(.int .i64 0), (.string ⟨#[]⟩)] [(0, (1, (.t 51)))]⟩,
  ⟨(some 53), none, .mkrow 2 1 [(.int .i64 0), (.string ⟨#[]⟩)] [(0, (2, (.t 52)))]⟩,
  ⟨(some 54), none, .app 2 24 (.t 49) (.t 53)⟩,
  ⟨(some 55), none, .nilck (.t 45)⟩,
  ⟨(some 56), none, .fadr 2 (.t 55)⟩,
  ⟨none, none, .st 1 (.t 56) (.t 54)⟩]
@[simp] def c_log_scanner_take_r10 : List Ir := [⟨(some 57), none, .mov (.t 0)⟩,
  ⟨(some 58), none, .nilck (.t 57)⟩,
  ⟨(some 59), none, .fadr 2 (.t 58)⟩,
  ⟨(some 60), none, .ld (.t 59)⟩,
  ⟨(some 61), none, .mov (.t 7)⟩,
  ⟨(some 62), none, .bin .sub 3 (.t 61) (.c (.int .i64 1))⟩,
  ⟨(some 63), none, .iadrS 2 (.t 60) (.t 62)⟩,
  ⟨(some 64), none, .fadr 0 (.t 63)⟩,
  ⟨(some 65), none, .ld (.t 64)⟩,
  ⟨(some 66), none, .fadr 1 (.t 4)⟩,
  ⟨(some 67), none, .ld (.t 66)⟩,
  ⟨(some 68), none, .bin .neq 3 (.t 65) (.t 67)⟩,
  ⟨(some 69), none, .mov (.t 68)⟩,
  ⟨(some 70), (some (69, false)), .mov (.t 0)⟩,
  ⟨(some 71), (some (69, false)), .nilck (.t 70)⟩,
  ⟨(some 72), (some (69, false)), .fadr 4 (.t 71)⟩,
  ⟨(some 73), (some (69, false)), .ld (.t 72)⟩,
  ⟨(some 74), (some (69, false)), .un .not (.t 73)⟩,
  ⟨(some 75), (some (69, false)), .mov (.t 74)⟩,
  ⟨(some 76), (some (75, true)), .fadr 3 (.t 4)⟩,
  ⟨(some 77), (some (75, true)), .ld (.t 76)⟩,
  ⟨(some 78), (some (75, true)), .bin .neq 9 (.t 77) (.c (.string ⟨#[]⟩))⟩,
  ⟨(some 79), (some (69, false)), .pick (.t 75) (.t 78) (.c (.bool false))⟩,
  ⟨(some 80), none, .pick (.t 69) (.c (.bool true)) (.t 79)⟩]
@[simp] def c_log_scanner_take_r11 : List Ir := [⟨(some 6), none, .mov (.c (.bool false))⟩]
@[simp] def c_log_scanner_take_r12 : List Ir := [⟨(some 81), none, .mov (.t 0)⟩,
  ⟨(some 82), none, .nilck (.t 81)⟩,
  ⟨(some 83), none, .fadr 2 (.t 82)⟩,
  ⟨(some 84), none, .ld (.t 83)⟩,
  ⟨(some 85), none, .mov (.t 0)⟩,
  ⟨(some 86), none, .nilck (.t 85)⟩,
  ⟨(some 87), none, .fadr 2 (.t 86)⟩,
  ⟨(some 88), none, .ld (.t 87)⟩,
  ⟨(some 89), none, .lenV (.t 88)⟩,
  ⟨(some 90), none, .bin .sub 3 (.t 89) (.c (.int .i64 1))⟩,
  ⟨(some 91), none, .iadrS 2 (.t 84) (.t 90)⟩,
  ⟨(some 92), none, .fadr 1 (.t 91)⟩,
  ⟨(some 93), none, .ld (.t 92)⟩,
  ⟨(some 94), none, .fadr 3 (.t 4)⟩,
  ⟨(some 95), none, .ld (.t 94)⟩,
  ⟨(some 96), none, .bin .add 9 (.t 93) (.t 95)⟩,
  ⟨(some 97), none, .iadrS 2 (.t 84) (.t 90)⟩,
  ⟨(some 98), none, .fadr 1 (.t 97)⟩,
  ⟨none, none, .st 1 (.t 98) (.t 96)⟩]
@[simp] def c_log_scanner_take_r13 : List Ir := [⟨(some 99), none, .mov (.t 0)⟩,
  ⟨(some 100), none, .mov (.t 0)⟩,
  ⟨(some 101), none, .fadr 2 (.t 4)⟩,
  ⟨(some 102), none, .ld (.t 101)⟩,
  ⟨(some 103), none, .bin .add 3 (.t 102) (.c (.int .i64 1))⟩,
  ⟨(some 104), none, .bin .rem 3 (.t 103) (.c (.int .i64 4))⟩,
  ⟨(some 105), none, .fadr 3 (.t 4)⟩,
  ⟨(some 106), none, .ld (.t 105)⟩,
  ⟨(some 107), none, .lenS (.t 106)⟩,
  ⟨(some 108), none, .bin .eql 3 (.t 107) (.c (.int .i64 24))⟩,
  ⟨(some 109), none, .nilck (.t 99)⟩,
  ⟨(some 110), none, .fadr 3 (.t 109)⟩,
  ⟨none, none, .st 1 (.t 110) (.t 104)⟩,
  ⟨(some 111), none, .nilck (.t 100)⟩,
  ⟨(some 112), none, .fadr 4 (.t 111)⟩,
  ⟨none, none, .st 1 (.t 112) (.t 108)⟩]
@[simp] def c_log_scanner_take_r14 : List Ir := [⟨(some 6), none, .mov (.c (.bool true))⟩]
@[simp] def c_log_scanner_take : IFn := ⟨(.seq (.reg c_log_scanner_take_r0) (.seq (.seq (.reg c_log_scanner_take_r1) (.cond (.t 10) (.seq (.reg c_log_scanner_take_r2) .ret) .skip)) (.seq (.seq (.regd c_log_scanner_take_r3 []) (.cond (.t 20) (.seq (.reg c_log_scanner_take_r4) .ret) .skip)) (.seq (.seq (.reg c_log_scanner_take_r5) (.seq (.reg c_log_scanner_take_r6) (.cond (.t 28) (.seq (.seq (.regd c_log_scanner_take_r7 []) (.cond (.t 44) (.seq (.reg c_log_scanner_take_r8) .ret) .skip)) (.regd c_log_scanner_take_r9 [])) (.seq (.regd c_log_scanner_take_r10 []) (.cond (.t 80) (.seq (.reg c_log_scanner_take_r11) .ret) .skip))))) (.seq (.regd c_log_scanner_take_r12 []) (.seq (.regd c_log_scanner_take_r13 [(7, 12)]) (.seq (.reg c_log_scanner_take_r14) .ret))))))), 113, [.tmp 6]⟩

theorem fc_log_scanner_take : fnAt Try.prog f_log_scanner_take = some c_log_scanner_take := by kernel_rfl
end Go.AM
