import Derived.Test.YtiiliffoclejlaaAm2
import Derived.Test.YtiiliffoclejlaaProg
import Derived.KernelRfl
namespace Go.AM
open Go.Proofs
set_option maxRecDepth 1000000
abbrev tyInt : TypeId := 3
abbrev tyStr : TypeId := 9
abbrev tyBool : TypeId := 4
abbrev tyU8 : TypeId := 5
abbrev tyUint : TypeId := 55
abbrev tyStrs : TypeId := 22
abbrev tyWrs : TypeId := 23
abbrev tyImgs : TypeId := 64
abbrev tySteps : TypeId := 67
abbrev tyRecs : TypeId := 131
abbrev f_law2_Disks : FuncId := 3
abbrev f_law2_DiskFlushed : FuncId := 4
abbrev f_law2_DiskForms : FuncId := 5
abbrev f_law2_DiskLast : FuncId := 6
abbrev f_law2_DiskTorn : FuncId := 7
abbrev f_law2_DiskSubset : FuncId := 8
abbrev f_law8_Plans : FuncId := 9
abbrev f_law8_PlanCrash : FuncId := 10
abbrev f_law8_PlanForms : FuncId := 11
abbrev f_law8_PlanFresh : FuncId := 12
abbrev f_law8_PlanAgain : FuncId := 13
abbrev f_law8_PlanRow : FuncId := 14
abbrev f_law7_Opens : FuncId := 15
abbrev f_law7_OpenSame : FuncId := 16
abbrev f_law7_OpenRows : FuncId := 17
abbrev f_law7_OpenHead : FuncId := 18
abbrev f_law7_OpenTorn : FuncId := 19
abbrev f_law1_PairForms : FuncId := 20
abbrev f_law5_HeadRow : FuncId := 21
abbrev f_law0_CopyDisk : FuncId := 22
abbrev f_disk_Read : FuncId := 23
abbrev f_ref1_Read : FuncId := 24
abbrev f_disk_Do : FuncId := 25
abbrev f_ref1_Do : FuncId := 26
abbrev f_disk_Crash : FuncId := 27
abbrev f_ref1_Crash : FuncId := 28
abbrev f_law0_Num : FuncId := 29
abbrev f_law0_SameDisk : FuncId := 30
abbrev f_disk_May : FuncId := 31
abbrev f_ref1_DiskMay : FuncId := 32
abbrev f_law0_SpoilDisk : FuncId := 33
abbrev f_disk_New : FuncId := 34
abbrev f_ref1_NewDisk : FuncId := 35
abbrev f_law2_awake : FuncId := 36
abbrev f_law2_sector : FuncId := 37
abbrev f_law0_CopyPager : FuncId := 38
abbrev f_law0_LendImages : FuncId := 39
abbrev f_plan_Fresh : FuncId := 40
abbrev f_ref1_Fresh : FuncId := 41
abbrev f_plan_Commit : FuncId := 42
abbrev f_ref1_Commit : FuncId := 43
abbrev f_law0_SameSteps : FuncId := 44
abbrev f_law0_SamePager : FuncId := 45
abbrev f_plan_May : FuncId := 46
abbrev f_ref1_PagerMay : FuncId := 47
abbrev f_plan_Format : FuncId := 48
abbrev f_ref1_Format : FuncId := 49
abbrev f_law0_SpoilSteps : FuncId := 50
abbrev f_law0_SpoilPager : FuncId := 51
abbrev f_law0_KeptImages : FuncId := 52
abbrev f_law8_awake : FuncId := 53
abbrev f_ref1_ImagesMay : FuncId := 54
abbrev f_law8_done : FuncId := 55
abbrev f_ref1_Open : FuncId := 56
abbrev f_law0_SameTexts : FuncId := 57
abbrev f_ref1_Blank : FuncId := 58
abbrev f_open_Open : FuncId := 59
abbrev f_open_Blank : FuncId := 60
abbrev f_law7_awake : FuncId := 61
abbrev f_law7_done : FuncId := 62
abbrev f_law1_awake : FuncId := 63
abbrev f_pair_Put : FuncId := 64
abbrev f_law1_half : FuncId := 65
abbrev f_pair_Get : FuncId := 66
abbrev f_law1_zeros : FuncId := 67
abbrev f_pair_Torn : FuncId := 68
abbrev f_law5_awake : FuncId := 69
abbrev f_head_Put : FuncId := 70
abbrev f_ref1_PutPair : FuncId := 71
abbrev f_head_Best : FuncId := 72
abbrev f_disk_has : FuncId := 73
abbrev f_slices_Backward_Write : FuncId := 74
abbrev f_ref1_read : FuncId := 75
abbrev f_disk_may : FuncId := 76
abbrev f_slices_Clone_string_string : FuncId := 77
abbrev f_slices_Clone_Write : FuncId := 78
abbrev f_ref1_writeMay : FuncId := 79
abbrev f_ref1_CopyDisk : FuncId := 80
abbrev f_ref1_Torn : FuncId := 81
abbrev f_law0_SameWrites : FuncId := 82
abbrev f_disk_May_1 : FuncId := 83
abbrev f_disk_May_2 : FuncId := 84
abbrev f_slices_ContainsFunc_string_string : FuncId := 85
abbrev f_slices_ContainsFunc_Write : FuncId := 86
abbrev f_law0_SpoilTexts : FuncId := 87
abbrev f_law0_SpoilWrites : FuncId := 88
abbrev f_slices_Repeat_string_string : FuncId := 89
abbrev f_strings_Repeat : FuncId := 90
abbrev f_ref1_zeros : FuncId := 91
abbrev f_law0_CopyImages : FuncId := 92
abbrev f_plan_may : FuncId := 93
abbrev f_log_Parts : FuncId := 94
abbrev f_plan_steps_record : FuncId := 95
abbrev f_open_Home : FuncId := 96
abbrev f_plan_steps_flush : FuncId := 97
abbrev f_plan_steps_head : FuncId := 98
abbrev f_ref1_roomy : FuncId := 99
abbrev f_ref1_PutRecord : FuncId := 100
abbrev f_ref1_part : FuncId := 101
abbrev f_ref1_write : FuncId := 102
abbrev f_ref1_home : FuncId := 103
abbrev f_ref1_headStep : FuncId := 104
abbrev f_log_Images : FuncId := 105
abbrev f_log_Count : FuncId := 106
abbrev f_log_Make : FuncId := 107
abbrev f_ref1_Make : FuncId := 108
abbrev f_plan_May_1 : FuncId := 109
abbrev f_head_May : FuncId := 110
abbrev f_record_Seq : FuncId := 111
abbrev f_ref1_textMay : FuncId := 112
abbrev f_ref1_HeadMay : FuncId := 113
abbrev f_ref1_seqMay : FuncId := 114
abbrev f_law0_SameImages : FuncId := 115
abbrev f_ref1_Best : FuncId := 116
abbrev f_ref1_homeText : FuncId := 117
abbrev f_ref1_GetPair : FuncId := 118
abbrev f_ref1_Scan : FuncId := 119
abbrev f_open_home : FuncId := 120
abbrev f_open_whole : FuncId := 121
abbrev f_log_Scan : FuncId := 122
abbrev f_head_Get : FuncId := 123
abbrev f_record_Fill : FuncId := 124
abbrev f_record_Four : FuncId := 125
abbrev f_head_of : FuncId := 126
abbrev f_slices_Backward_Write_1 : FuncId := 127
abbrev f_slices_IndexFunc_string_string : FuncId := 128
abbrev f_slices_IndexFunc_Write : FuncId := 129
abbrev f_math_bits_Mul : FuncId := 130
abbrev f_record_Put : FuncId := 136
abbrev f_plan_steps_write : FuncId := 137
abbrev f_ref1_RecordMay : FuncId := 138
abbrev f_ref1_Num : FuncId := 139
abbrev f_ref1_PutHead : FuncId := 140
abbrev f_record_Page : FuncId := 141
abbrev f_ref1_sectorHead : FuncId := 142
abbrev f_ref1_GetRecord : FuncId := 143
abbrev f_ref1_one : FuncId := 144
abbrev f_record_Get : FuncId := 145
abbrev f_log_scanner_take : FuncId := 146
abbrev f_record_Number : FuncId := 147
abbrev f_math_bits_Mul32 : FuncId := 148
abbrev f_math_bits_Mul64 : FuncId := 149
abbrev f_record_May : FuncId := 153
abbrev f_ref1_GetHead : FuncId := 154
abbrev f_ref1_Of : FuncId := 155
abbrev f_log_scanner_commit : FuncId := 156
@[simp] def c_law2_Disks_r0 : List Ir := [⟨(some 6), none, .box 2 (.t 0)⟩,
  ⟨(some 7), none, .box 3 (.t 1)⟩,
  ⟨(some 12), none, .mov (.c (.bool false))⟩]
@[simp] def c_law2_Disks_r1 : List Ir := [⟨(some 26), none, .ldn 2 (.t 6)⟩,
  ⟨(some 27), none, .call f_law0_CopyDisk [(.t 26)]⟩,
  ⟨(some 13), none, .new [(.slice none 0 0), (.slice none 0 0)]⟩,
  ⟨none, none, .st 2 (.t 13) (.t 27)⟩]
@[simp] def c_law2_Disks_r2 : List Ir := [⟨(some 29), none, .ldn 2 (.t 13)⟩,
  ⟨(some 30), none, .mov (.t 2)⟩,
  ⟨(some 31), none, .call f_disk_Read [(.t 29), (.t 30)]⟩,
  ⟨(some 28), none, .mov (.t 31)⟩,
  ⟨(some 32), none, .ext 0 (.t 28)⟩,
  ⟨(some 33), none, .ext 1 (.t 28)⟩,
  ⟨(some 14), none, .mov (.t 32)⟩,
  ⟨(some 15), none, .mov (.t 33)⟩]
@[simp] def c_law2_Disks_r3 : List Ir := [⟨(some 35), none, .ldn 2 (.t 6)⟩,
  ⟨(some 36), none, .mov (.t 2)⟩,
  ⟨(some 37), none, .call f_ref1_Read [(.t 35), (.t 36)]⟩,
  ⟨(some 34), none, .mov (.t 37)⟩,
  ⟨(some 38), none, .ext 0 (.t 34)⟩,
  ⟨(some 39), none, .ext 1 (.t 34)⟩,
  ⟨(some 16), none, .mov (.t 38)⟩,
  ⟨(some 17), none, .mov (.t 39)⟩]
@[simp] def c_law2_Disks_r4 : List Ir := [⟨(some 41), none, .ldn 2 (.t 13)⟩,
  ⟨(some 42), none, .ldn 3 (.t 7)⟩,
  ⟨(some 43), none, .call f_disk_Do [(.t 41), (.t 42)]⟩,
  ⟨(some 40), none, .mov (.t 43)⟩,
  ⟨(some 44), none, .ext 0 (.t 40)⟩,
  ⟨(some 45), none, .ext 1 (.t 40)⟩,
  ⟨(some 18), none, .new [(.slice none 0 0), (.slice none 0 0)]⟩,
  ⟨none, none, .st 2 (.t 18) (.t 44)⟩,
  ⟨(some 19), none, .mov (.t 45)⟩]
@[simp] def c_law2_Disks_r5 : List Ir := [⟨(some 47), none, .ldn 2 (.t 6)⟩,
  ⟨(some 48), none, .ldn 3 (.t 7)⟩,
  ⟨(some 49), none, .call f_ref1_Do [(.t 47), (.t 48)]⟩,
  ⟨(some 46), none, .mov (.t 49)⟩,
  ⟨(some 50), none, .ext 0 (.t 46)⟩,
  ⟨(some 51), none, .ext 1 (.t 46)⟩,
  ⟨(some 20), none, .new [(.slice none 0 0), (.slice none 0 0)]⟩,
  ⟨none, none, .st 2 (.t 20) (.t 50)⟩,
  ⟨(some 21), none, .mov (.t 51)⟩]
@[simp] def c_law2_Disks_r6 : List Ir := [⟨(some 53), none, .ldn 2 (.t 13)⟩,
  ⟨(some 54), none, .mov (.t 3)⟩,
  ⟨(some 55), none, .mov (.t 4)⟩,
  ⟨(some 56), none, .mov (.t 5)⟩,
  ⟨(some 57), none, .call f_disk_Crash [(.t 53), (.t 54), (.t 55), (.t 56)]⟩,
  ⟨(some 52), none, .mov (.t 57)⟩,
  ⟨(some 58), none, .ext 0 (.t 52)⟩,
  ⟨(some 59), none, .ext 1 (.t 52)⟩,
  ⟨(some 22), none, .new [(.slice none 0 0), (.slice none 0 0)]⟩,
  ⟨none, none, .st 2 (.t 22) (.t 58)⟩,
  ⟨(some 23), none, .mov (.t 59)⟩]
@[simp] def c_law2_Disks_r7 : List Ir := [⟨(some 61), none, .ldn 2 (.t 6)⟩,
  ⟨(some 62), none, .mov (.t 3)⟩,
  ⟨(some 63), none, .mov (.t 4)⟩,
  ⟨(some 64), none, .mov (.t 5)⟩,
  ⟨(some 65), none, .call f_ref1_Crash [(.t 61), (.t 62), (.t 63), (.t 64)]⟩,
  ⟨(some 60), none, .mov (.t 65)⟩,
  ⟨(some 66), none, .ext 0 (.t 60)⟩,
  ⟨(some 67), none, .ext 1 (.t 60)⟩,
  ⟨(some 24), none, .new [(.slice none 0 0), (.slice none 0 0)]⟩,
  ⟨none, none, .st 2 (.t 24) (.t 66)⟩,
  ⟨(some 25), none, .mov (.t 67)⟩]
@[simp] def c_law2_Disks_r8 : List Ir := [⟨(some 68), none, .mov (.t 14)⟩,
  ⟨(some 69), none, .mov (.t 16)⟩,
  ⟨(some 70), none, .bin .neq 9 (.t 68) (.t 69)⟩,
  ⟨(some 71), none, .mov (.t 70)⟩,
  ⟨(some 72), (some (71, false)), .mov (.t 15)⟩,
  ⟨(some 74), (some (71, false)), .mov (.t 17)⟩,
  ⟨(some 73), (some (71, false)), .call f_law0_Num [(.t 72)]⟩,
  ⟨(some 75), (some (71, false)), .bin .neq 3 (.t 73) (.t 74)⟩,
  ⟨(some 76), none, .pick (.t 71) (.c (.bool true)) (.t 75)⟩,
  ⟨(some 77), none, .mov (.t 76)⟩,
  ⟨(some 78), (some (77, false)), .ldn 2 (.t 18)⟩,
  ⟨(some 79), (some (77, false)), .ldn 2 (.t 20)⟩,
  ⟨(some 80), (some (77, false)), .call f_law0_SameDisk [(.t 78), (.t 79)]⟩,
  ⟨(some 81), (some (77, false)), .un .not (.t 80)⟩,
  ⟨(some 82), none, .pick (.t 77) (.c (.bool true)) (.t 81)⟩,
  ⟨(some 83), none, .mov (.t 82)⟩,
  ⟨(some 84), (some (83, false)), .mov (.t 19)⟩,
  ⟨(some 86), (some (83, false)), .mov (.t 21)⟩,
  ⟨(some 85), (some (83, false)), .call f_law0_Num [(.t 84)]⟩,
  ⟨(some 87), (some (83, false)), .bin .neq 3 (.t 85) (.t 86)⟩,
  ⟨(some 88), none, .pick (.t 83) (.c (.bool true)) (.t 87)⟩,
  ⟨(some 89), none, .mov (.t 88)⟩,
  ⟨(some 90), (some (89, false)), .ldn 2 (.t 22)⟩,
  ⟨(some 91), (some (89, false)), .ldn 2 (.t 24)⟩,
  ⟨(some 92), (some (89, false)), .call f_law0_SameDisk [(.t 90), (.t 91)]⟩,
  ⟨(some 93), (some (89, false)), .un .not (.t 92)⟩,
  ⟨(some 94), none, .pick (.t 89) (.c (.bool true)) (.t 93)⟩,
  ⟨(some 95), none, .mov (.t 94)⟩,
  ⟨(some 96), (some (95, false)), .mov (.t 23)⟩,
  ⟨(some 98), (some (95, false)), .mov (.t 25)⟩,
  ⟨(some 97), (some (95, false)), .call f_law0_Num [(.t 96)]⟩,
  ⟨(some 99), (some (95, false)), .bin .neq 3 (.t 97) (.t 98)⟩,
  ⟨(some 100), none, .pick (.t 95) (.c (.bool true)) (.t 99)⟩,
  ⟨(some 101), none, .mov (.t 100)⟩,
  ⟨(some 102), (some (101, false)), .ldn 2 (.t 13)⟩,
  ⟨(some 104), (some (101, false)), .ldn 2 (.t 6)⟩,
  ⟨(some 103), (some (101, false)), .call f_disk_May [(.t 102)]⟩,
  ⟨(some 105), (some (101, false)), .call f_ref1_DiskMay [(.t 104)]⟩,
  ⟨(some 106), (some (101, false)), .bin .neq 4 (.t 103) (.t 105)⟩,
  ⟨(some 107), none, .pick (.t 101) (.c (.bool true)) (.t 106)⟩]
@[simp] def c_law2_Disks_r9 : List Ir := [⟨(some 12), none, .mov (.c (.bool false))⟩]
@[simp] def c_law2_Disks_r10 : List Ir := [⟨(some 108), none, .ldn 2 (.t 18)⟩,
  ⟨(some 109), none, .call f_law0_SpoilDisk [(.t 108)]⟩]
@[simp] def c_law2_Disks_r11 : List Ir := [⟨(some 110), none, .ldn 2 (.t 22)⟩,
  ⟨(some 111), none, .call f_law0_SpoilDisk [(.t 110)]⟩]
@[simp] def c_law2_Disks_r12 : List Ir := [⟨(some 112), none, .ldn 2 (.t 13)⟩,
  ⟨(some 113), none, .ldn 2 (.t 6)⟩,
  ⟨(some 114), none, .call f_law0_SameDisk [(.t 112), (.t 113)]⟩,
  ⟨(some 115), none, .mov (.t 114)⟩,
  ⟨(some 116), (some (115, true)), .call f_disk_New []⟩,
  ⟨(some 117), (some (115, true)), .call f_ref1_NewDisk []⟩,
  ⟨(some 118), (some (115, true)), .call f_law0_SameDisk [(.t 116), (.t 117)]⟩,
  ⟨(some 119), none, .pick (.t 115) (.t 118) (.c (.bool false))⟩,
  ⟨(some 120), none, .mov (.t 119)⟩,
  ⟨(some 121), (some (120, true)), .call f_law2_awake []⟩,
  ⟨(some 122), none, .pick (.t 120) (.t 121) (.c (.bool false))⟩,
  ⟨(some 12), none, .mov (.t 122)⟩]
@[simp] def c_law2_Disks : IFn := ⟨(.seq (.reg c_law2_Disks_r0) (.seq (.reg c_law2_Disks_r1) (.seq (.reg c_law2_Disks_r2) (.seq (.reg c_law2_Disks_r3) (.seq (.reg c_law2_Disks_r4) (.seq (.reg c_law2_Disks_r5) (.seq (.reg c_law2_Disks_r6) (.seq (.reg c_law2_Disks_r7) (.seq (.seq (.regd c_law2_Disks_r8 [(35, 36)]) (.cond (.t 107) (.seq (.reg c_law2_Disks_r9) .ret) .skip)) (.seq (.reg c_law2_Disks_r10) (.seq (.reg c_law2_Disks_r11) (.seq (.reg c_law2_Disks_r12) .ret)))))))))))), 123, [.tmp 12]⟩

theorem fc_law2_Disks : fnAt Try.prog f_law2_Disks = some c_law2_Disks := by kernel_rfl
@[simp] def c_law2_DiskFlushed_r0 : List Ir := [⟨(some 6), none, .mov (.c (.bool false))⟩]
@[simp] def c_law2_DiskFlushed_r1 : List Ir := [⟨(some 23), none, .call f_law2_awake []⟩,
  ⟨(some 24), none, .un .not (.t 23)⟩]
@[simp] def c_law2_DiskFlushed_r2 : List Ir := [⟨(some 6), none, .mov (.c (.bool false))⟩]
@[simp] def c_law2_DiskFlushed_r3 : List Ir := [⟨(some 25), none, .call f_disk_New []⟩,
  ⟨(some 7), none, .new [(.slice none 0 0), (.slice none 0 0)]⟩,
  ⟨none, none, .st 2 (.t 7) (.t 25)⟩]
@[simp] def c_law2_DiskFlushed_r4 : List Ir := [⟨(some 8), none, .new [(.int .i64 0), (.int .i64 0), (.int .i64 0), (.int .i64 0), (.int .i64 0), (.int .i64 0), (.int .i64 0), (.int .i64 0), (.int .i64 0), (.int .i64 0), (.int .i64 0), (.int .i64 0), (.int .i64 0), (.int .i64 0), (.int .i64 0), (.int .i64 0), (.int .i64 0), (.int .i64 0), (.int .i64 0), (.int .i64 0), (.int .i64 0), (.int .i64 0), (.int .i64 0), (.int .i64 0), (.int .i64 0), (.int .i64 0), (.int .i64 0), (.int .i64 0), (.int .i64 0), (.int .i64 0), (.int .i64 0), (.int .i64 0), (.int .i64 0), (.int .i64 0), (.int .i64 0), (.int .i64 0), (.int .i64 0), (.int .i64 0), (.int .i64 0), (.int .i64 0), (.int .i64 0), (.int .i64 0), (.int .i64 0), (.int .i64 0), (.int .i64 0), (.int .i64 0), (.int .i64 0), (.int .i64 0), (.int .i64 0), (.int .i64 0), (.int .i64 0), (.int .i64 0), (.int .i64 0), (.int .i64 0), (.int .i64 0), (.int .i64 0), (.int .i64 0), (.int .i64 0), (.int .i64 0), (.int .i64 0), (.int .i64 0), (.int .i64 0), (.int .i64 0), (.int .i64 0)]⟩]
@[simp] def c_law2_DiskFlushed_r5 : List Ir := [⟨(some 9), none, .new [(.bool false), (.bool false), (.bool false), (.bool false), (.bool false), (.bool false), (.bool false), (.bool false), (.bool false), (.bool false), (.bool false), (.bool false), (.bool false), (.bool false), (.bool false), (.bool false), (.bool false), (.bool false), (.bool false), (.bool false), (.bool false), (.bool false), (.bool false), (.bool false), (.bool false), (.bool false), (.bool false), (.bool false), (.bool false), (.bool false), (.bool false), (.bool false), (.bool false), (.bool false), (.bool false), (.bool false), (.bool false), (.bool false), (.bool false), (.bool false), (.bool false), (.bool false), (.bool false), (.bool false), (.bool false), (.bool false), (.bool false), (.bool false), (.bool false), (.bool false), (.bool false), (.bool false), (.bool false), (.bool false), (.bool false), (.bool false), (.bool false), (.bool false), (.bool false), (.bool false), (.bool false), (.bool false), (.bool false), (.bool false), (.bool false), (.bool false), (.bool false), (.bool false), (.bool false), (.bool false), (.bool false), (.bool false), (.bool false), (.bool false), (.bool false), (.bool false), (.bool false), (.bool false), (.bool false), (.bool false), (.bool false), (.bool false), (.bool false), (.bool false), (.bool false), (.bool false), (.bool false), (.bool false), (.bool false), (.bool false), (.bool false), (.bool false), (.bool false), (.bool false), (.bool false), (.bool false), (.bool false), (.bool false), (.bool false), (.bool false), (.bool false), (.bool false), (.bool false), (.bool false), (.bool false), (.bool false), (.bool false), (.bool false), (.bool false), (.bool false), (.bool false), (.bool false), (.bool false), (.bool false), (.bool false), (.bool false), (.bool false), (.bool false), (.bool false), (.bool false), (.bool false), (.bool false), (.bool false), (.bool false), (.bool false), (.bool false), (.bool false), (.bool false), (.bool false), (.bool false), (.bool false), (.bool false), (.bool false), (.bool false), (.bool false), (.bool false), (.bool false), (.bool false), (.bool false), (.bool false), (.bool false), (.bool false), (.bool false), (.bool false), (.bool false), (.bool false), (.bool false), (.bool false), (.bool false), (.bool false), (.bool false), (.bool false), (.bool false), (.bool false), (.bool false), (.bool false), (.bool false), (.bool false), (.bool false), (.bool false), (.bool false), (.bool false), (.bool false), (.bool false), (.bool false), (.bool false), (.bool false), (.bool false), (.bool false), (.bool false), (.bool false), (.bool false), (.bool false), (.bool false), (.bool false), (.bool false), (.bool false), (.bool false), (.bool false), (.bool false), (.bool false), (.bool false), (.bool false), (.bool false), (.bool false), (.bool false), (.bool false), (.bool false), (.bool false), (.bool false), (.bool false), (.bool false), (.bool false), (.bool false), (.bool false), (.bool false), (.bool false), (.bool false), (.bool false), (.bool false), (.bool false), (.bool false), (.bool false), (.bool false), (.bool false), (.bool false), (.bool false), (.bool false), (.bool false), (.bool false), (.bool false), (.bool false), (.bool false), (.bool false), (.bool false), (.bool false), (.bool false), (.bool false), (.bool false), (.bool false), (.bool false), (.bool false), (.bool false), (.bool false), (.bool false), (.bool false), (.bool false), (.bool false), (.bool false), (.bool false), (.bool false), (.bool false), (.bool false), (.bool false), (.bool false), (.bool false), (.bool false), (.bool false), (.bool false), (.bool false), (.bool false), (.bool false), (.bool false), (.bool false), (.bool false), (.bool false), (.bool false), (.bool false), (.bool false), (.bool false), (.bool false), (.bool false), (.bool false), (.bool false), (.bool false), (.bool false), (.bool false), (.bool false), (.bool false), (.bool false), (.bool false), (.bool false), (.bool false), (.bool false), (.bool false), (.bool false), (.bool false), (.bool false), (.bool false), (.bool false), (.bool false), (.bool false), (.bool false), (.bool false), (.bool false), (.bool false), (.bool false), (.bool false), (.bool false), (.bool false), (.bool false), (.bool false), (.bool false), (.bool false), (.bool false), (.bool false), (.bool false), (.bool false), (.bool false), (.bool false), (.bool false), (.bool false), (.bool false), (.bool false), (.bool false), (.bool false), (.bool false), (.bool false), (.bool false), (.bool false), (.bool false), (.bool false), (.bool false), (.bool false), (.bool false), (.bool false), (.bool false), (.bool false), (.bool false), (.bool false), (.bool false), (.bool false), (.bool false), (.bool false), (.bool false), (.bool false), (.bool false), (.bool false), (.bool false), (.bool false), (.bool false), (.bool false), (.bool false), (.bool false), (.bool false), (.bool false), (.bool false), (.bool false), (.bool false), (.bool false), (.bool false), (.bool false), (.bool false), (.bool false), (.bool false), (.bool false), (.bool false), (.bool false), (.bool false), (.bool false), (.bool false), (.bool false), (.bool false), (.bool false), (.bool false), (.bool false), (.bool false), (.bool false), (.bool false), (.bool false), (.bool false), (.bool false), (.bool false), (.bool false), (.bool false), (.bool false), (.bool false), (.bool false), (.bool false), (.bool false), (.bool false), (.bool false), (.bool false), (.bool false), (.bool false), (.bool false), (.bool false), (.bool false), (.bool false), (.bool false), (.bool false), (.bool false), (.bool false), (.bool false), (.bool false), (.bool false), (.bool false), (.bool false), (.bool false), (.bool false), (.bool false), (.bool false), (.bool false), (.bool false), (.bool false), (.bool false), (.bool false), (.bool false), (.bool false), (.bool false), (.bool false), (.bool false), (.bool false), (.bool false), (.bool false), (.bool false), (.bool false), (.bool false), (.bool false), (.bool false), (.bool false), (.bool false), (.bool false), (.bool false), (.bool false), (.bool false), (.bool false), (.bool false), (.bool false), (.bool false), (.bool false), (.bool false), (.bool false), (.bool false), (.bool false), (.bool false), (.bool false), (.bool false), (.bool false), (.bool false), (.bool false), (.bool false), (.bool false), (.bool false), (.bool false), (.bool false), (.bool false), (.bool false), (.bool false), (.bool false), (.bool false), (.bool false), (.bool false), (.bool false), (.bool false), (.bool false), (.bool false), (.bool false), (.bool false), (.bool false), (.bool false), (.bool false), (.bool false), (.bool false), (.bool false), (.bool false), (.bool false), (.bool false), (.bool false), (.bool false), (.bool false), (.bool false), (.bool false), (.bool false), (.bool false), (.bool false), (.bool false), (.bool false), (.bool false), (.bool false), (.bool false), (.bool false), (.bool false), (.bool false), (.bool false), (.bool false), (.bool false), (.bool false), (.bool false), (.bool false), (.bool false), (.bool false), (.bool false), (.bool false), (.bool false), (.bool false), (.bool false), (.bool false), (.bool false), (.bool false), (.bool false), (.bool false), (.bool false), (.bool false), (.bool false), (.bool false), (.bool false), (.bool false), (.bool false), (.bool false), (.bool false), (.bool false), (.bool false), (.bool false), (.bool false), (.bool false), (.bool false), (.bool false), (.bool false), (.bool false), (.bool false), (.bool false), (.bool false), (.bool false), (.bool false), (.bool false), (.bool false), (.bool false), (.bool false), (.bool false), (.bool false), (.bool false), (.bool false), (.bool false), (.bool false), (.bool false), (.bool false), (.bool false), (.bool false), (.bool false), (.bool false), (.bool false), (.bool false), (.bool false), (.bool false), (.bool false), (.bool false), (.bool false), (.bool false), (.bool false), (.bool false), (.bool false), (.bool false), (.bool false), (.bool false), (.bool false), (.bool false), (.bool false), (.bool false), (.bool false), (.bool false), (.bool false), (.bool false), (.bool false), (.bool false), (.bool false), (.bool false), (.bool false), (.bool false), (.bool false), (.bool false), (.bool false), (.bool false), (.bool false), (.bool false), (.bool false), (.bool false), (.bool false), (.bool false), (.bool false), (.bool false), (.bool false), (.bool false), (.bool false), (.bool false), (.bool false), (.bool false), (.bool false), (.bool false), (.bool false), (.bool false), (.bool false), (.bool false), (.bool false), (.bool false), (.bool false), (.bool false), (.bool false), (.bool false), (.bool false), (.bool false), (.bool false), (.bool false), (.bool false), (.bool false), (.bool false), (.bool false), (.bool false), (.bool false), (.bool false), (.bool false), (.bool false), (.bool false), (.bool false), (.bool false), (.bool false), (.bool false), (.bool false), (.bool false), (.bool false), (.bool false), (.bool false), (.bool false), (.bool false), (.bool false), (.bool false), (.bool false), (.bool false), (.bool false), (.bool false), (.bool false), (.bool false), (.bool false), (.bool false), (.bool false), (.bool false), (.bool false), (.bool false), (.bool false), (.bool false), (.bool false), (.bool false), (.bool false), (.bool false), (.bool false), (.bool false), (.bool false), (.bool false), (.bool false), (.bool false), (.bool false), (.bool false), (.bool false), (.bool false), (.bool false), (.bool false), (.bool false), (.bool false), (.bool false), (.bool false), (.bool false), (.bool false), (.bool false), (.bool false), (.bool false), (.bool false), (.bool false), (.bool false), (.bool false), (.bool false), (.bool false), (.bool false), (.bool false), (.bool false), (.bool false), (.bool false), (.bool false), (.bool false), (.bool false), (.bool false), (.bool false), (.bool false), (.bool false), (.bool false), (.bool false), (.bool false), (.bool false), (.bool false), (.bool false), (.bool false), (.bool false), (.bool false), (.bool false), (.bool false), (.bool false), (.bool false), (.bool false), (.bool false), (.bool false), (.bool false), (.bool false), (.bool false), (.bool false), (.bool false), (.bool false), (.bool false), (.bool false), (.bool false), (.bool false), (.bool false), (.bool false), (.bool false), (.bool false), (.bool false), (.bool false), (.bool false), (.bool false), (.bool false), (.bool false), (.bool false), (.bool false), (.bool false), (.bool false), (.bool false), (.bool false), (.bool false), (.bool false), (.bool false), (.bool false), (.bool false), (.bool false), (.bool false), (.bool false), (.bool false), (.bool false), (.bool false), (.bool false), (.bool false), (.bool false), (.bool false), (.bool false), (.bool false), (.bool false), (.bool false), (.bool false), (.bool false), (.bool false), (.bool false), (.bool false), (.bool false), (.bool false), (.bool false), (.bool false), (.bool false), (.bool false), (.bool false), (.bool false), (.bool false), (.bool false), (.bool false), (.bool false), (.bool false), (.bool false), (.bool false), (.bool false), (.bool false), (.bool false), (.bool false), (.bool false), (.bool false), (.bool false), (.bool false), (.bool false), (.bool false), (.bool false), (.bool false), (.bool false), (.bool false), (.bool false), (.bool false), (.bool false), (.bool false), (.bool false), (.bool false), (.bool false), (.bool false), (.bool false), (.bool false), (.bool false), (.bool false), (.bool false), (.bool false), (.bool false), (.bool false), (.bool false), (.bool false), (.bool false), (.bool false), (.bool false), (.bool false), (.bool false), (.bool false), (.bool false), (.bool false), (.bool false), (.bool false), (.bool false), (.bool false), (.bool false), (.bool false), (.bool false), (.bool false), (.bool false), (.bool false), (.bool false), (.bool false), (.bool false), (.bool false), (.bool false), (.bool false), (.bool false), (.bool false), (.bool false), (.bool false), (.bool false), (.bool false), (.bool false), (.bool false), (.bool false), (.bool false), (.bool false), (.bool false), (.bool false), (.bool false), (.bool false), (.bool false), (.bool false), (.bool false), (.bool false), (.bool false), (.bool false), (.bool false), (.bool false), (.bool false), (.bool false), (.bool false), (.bool false), (.bool false), (.bool false), (.bool false), (.bool false), (.bool false), (.bool false), (.bool false), (.bool false), (.bool false), (.bool false), (.bool false), (.bool false), (.bool false), (.bool false), (.bool false), (.bool false), (.bool false), (.bool false), (.bool false), (.bool false), (.bool false), (.bool false), (.bool false), (.bool false), (.bool false), (.bool false), (.bool false), (.bool false), (.bool false), (.bool false), (.bool false), (.bool false), (.bool false), (.bool false), (.bool false), (.bool false), (.bool false), (.bool false), (.bool false), (.bool false), (.bool false), (.bool false), (.bool false), (.bool false), (.bool false), (.bool false), (.bool false), (.bool false), (.bool false), (.bool false), (.bool false), (.bool false), (.bool false), (.bool false), (.bool false), (.bool false), (.bool false), (.bool false), (.bool false), (.bool false), (.bool false), (.bool false), (.bool false), (.bool false), (.bool false), (.bool false), (.bool false), (.bool false), (.bool false), (.bool false), (.bool false), (.bool false), (.bool false), (.bool false), (.bool false), (.bool false), (.bool false), (.bool false), (.bool false), (.bool false), (.bool false), (.bool false), (.bool false), (.bool false), (.bool false), (.bool false), (.bool false), (.bool false), (.bool false), (.bool false), (.bool false), (.bool false), (.bool false), (.bool false), (.bool false), (.bool false), (.bool false), (.bool false), (.bool false), (.bool false), (.bool false), (.bool false), (.bool false), (.bool false), (.bool false), (.bool false), (.bool false), (.bool false), (.bool false), (.bool false), (.bool false), (.bool false), (.bool false), (.bool false), (.bool false), (.bool false), (.bool false), (.bool false), (.bool false), (.bool false), (.bool false), (.bool false), (.bool false), (.bool false), (.bool false), (.bool false), (.bool false), (.bool false), (.bool false), (.bool false), (.bool false), (.bool false), (.bool false), (.bool false), (.bool false), (.bool false), (.bool false), (.bool false), (.bool false), (.bool false), (.bool false), (.bool false), (.bool false), (.bool false), (.bool false), (.bool false), (.bool false), (.bool false), (.bool false), (.bool false), (.bool false), (.bool false), (.bool false), (.bool false), (.bool false), (.bool false), (.bool false), (.bool false), (.bool false), (.bool false), (.bool false), (.bool false), (.bool false), (.bool false), (.bool false), (.bool false), (.bool false), (.bool false), (.bool false), (.bool false), (.bool false), (.bool false), (.bool false), (.bool false), (.bool false), (.bool false), (.bool false), (.bool false), (.bool false), (.bool false), (.bool false), (.bool false), (.bool false), (.bool false), (.bool false), (.bool false), (.bool false), (.bool false), (.bool false), (.bool false), (.bool false), (.bool false), (.bool false), (.bool false), (.bool false), (.bool false), (.bool false), (.bool false), (.bool false), (.bool false), (.bool false), (.bool false), (.bool false), (.bool false), (.bool false), (.bool false), (.bool false), (.bool false), (.bool false), (.bool false), (.bool false), (.bool false), (.bool false), (.bool false), (.bool false), (.bool false), (.bool false), (.bool false), (.bool false), (.bool false), (.bool false), (.bool false), (.bool false), (.bool false), (.bool false), (.bool false), (.bool false), (.bool false), (.bool false), (.bool false), (.bool false), (.bool false), (.bool false), (.bool false), (.bool false), (.bool false), (.bool false), (.bool false), (.bool false), (.bool false), (.bool false), (.bool false), (.bool false), (.bool false), (.bool false), (.bool false), (.bool false), (.bool false), (.bool false), (.bool false), (.bool false), (.bool false), (.bool false), (.bool false), (.bool false), (.bool false), (.bool false), (.bool false), (.bool false), (.bool false), (.bool false), (.bool false), (.bool false), (.bool false), (.bool false), (.bool false), (.bool false), (.bool false), (.bool false), (.bool false), (.bool false), (.bool false), (.bool false), (.bool false), (.bool false), (.bool false), (.bool false), (.bool false), (.bool false), (.bool false), (.bool false), (.bool false), (.bool false), (.bool false), (.bool false), (.bool false), (.bool false), (.bool false), (.bool false), (.bool false), (.bool false), (.bool false), (.bool false), (.bool false), (.bool false), (.bool false), (.bool false), (.bool false), (.bool false), (.bool false), (.bool false), (.bool false), (.bool false), (.bool false), (.bool false), (.bool false), (.bool false), (.bool false), (.bool false), (.bool false), (.bool false), (.bool false), (.bool false), (.bool false), (.bool false), (.bool false), (.bool false), (.bool false), (.bool false), (.bool false), (.bool false), (.bool false), (.bool false), (.bool false), (.bool false), (.bool false), (.bool false), (.bool false), (.bool false), (.bool false), (.bool false), (.bool false), (.bool false), (.bool false), (.bool false), (.bool false), (.bool false), (.bool false), (.bool false), (.bool false), (.bool false), (.bool false), (.bool false), (.bool false), (.bool false), (.bool false), (.bool false), (.bool false), (.bool false), (.bool false), (.bool false), (.bool false), (.bool false), (.bool false), (.bool false), (.bool false), (.bool false), (.bool false), (.bool false), (.bool false), (.bool false), (.bool false), (.bool false), (.bool false), (.bool false), (.bool false), (.bool false), (.bool false), (.bool false), (.bool false), (.bool false), (.bool false), (.bool false), (.bool false), (.bool false), (.bool false), (.bool false), (.bool false), (.bool false), (.bool false), (.bool false), (.bool false), (.bool false), (.bool false), (.bool false), (.bool false), (.bool false), (.bool false), (.bool false), (.bool false), (.bool false), (.bool false), (.bool false), (.bool false), (.bool false), (.bool false), (.bool false), (.bool false), (.bool false), (.bool false), (.bool false), (.bool false), (.bool false), (.bool false), (.bool false), (.bool false), (.bool false), (.bool false), (.bool false), (.bool false), (.bool false), (.bool false), (.bool false), (.bool false), (.bool false), (.bool false), (.bool false), (.bool false), (.bool false), (.bool false), (.bool false), (.bool false), (.bool false), (.bool false), (.bool false), (.bool false), (.bool false), (.bool false), (.bool false), (.bool false), (.bool false), (.bool false), (.bool false), (.bool false), (.bool false), (.bool false), (.bool false), (.bool false), (.bool false), (.bool false), (.bool false), (.bool false), (.bool false), (.bool false), (.bool false), (.bool false), (.bool false), (.bool false), (.bool false), (.bool false), (.bool false), (.bool false), (.bool false), (.bool false), (.bool false), (.bool false), (.bool false), (.bool false), (.bool false), (.bool false), (.bool false), (.bool false), (.bool false), (.bool false), (.bool false), (.bool false), (.bool false), (.bool false), (.bool false), (.bool false), (.bool false), (.bool false), (.bool false), (.bool false), (.bool false), (.bool false), (.bool false), (.bool false), (.bool false), (.bool false), (.bool false), (.bool false), (.bool false), (.bool false), (.bool false), (.bool false), (.bool false), (.bool false), (.bool false), (.bool false), (.bool false), (.bool false), (.bool false), (.bool false), (.bool false), (.bool false), (.bool false), (.bool false), (.bool false), (.bool false), (.bool false), (.bool false), (.bool false), (.bool false), (.bool false), (.bool false), (.bool false), (.bool false), (.bool false), (.bool false), (.bool false), (.bool false), (.bool false), (.bool false), (.bool false), (.bool false), (.bool false), (.bool false), (.bool false), (.bool false), (.bool false), (.bool false), (.bool false), (.bool false), (.bool false), (.bool false), (.bool false), (.bool false), (.bool false), (.bool false), (.bool false), (.bool false), (.bool false), (.bool false), (.bool false), (.bool false), (.bool false), (.bool false), (.bool false), (.bool false), (.bool false), (.bool false), (.bool false), (.bool false), (.bool false), (.bool false), (.bool false), (.bool false), (.bool false), (.bool false), (.bool false), (.bool false), (.bool false), (.bool false), (.bool false), (.bool false), (.bool false), (.bool false), (.bool false), (.bool false), (.bool false), (.bool false), (.bool false), (.bool false), (.bool false), (.bool false), (.bool false), (.bool false), (.bool false), (.bool false), (.bool false), (.bool false), (.bool false), (.bool false), (.bool false), (.bool false), (.bool false), (.bool false), (.bool false), (.bool false), (.bool false), (.bool false), (.bool false), (.bool false), (.bool false), (.bool false), (.bool false), (.bool false), (.bool false), (.bool false), (.bool false), (.bool false), (.bool false), (.bool false), (.bool false), (.bool false), (.bool false), (.bool false), (.bool false), (.bool false), (.bool false), (.bool false), (.bool false), (.bool false), (.bool false), (.bool false), (.bool false), (.bool false), (.bool false), (.bool false), (.bool false), (.bool false), (.bool false), (.bool false), (.bool false), (.bool false), (.bool false), (.bool false), (.bool false), (.bool false), (.bool false), (.bool false), (.bool false), (.bool false), (.bool false), (.bool false), (.bool false), (.bool false), (.bool false), (.bool false), (.bool false), (.bool false), (.bool false), (.bool false), (.bool false), (.bool false), (.bool false), (.bool false), (.bool false), (.bool false), (.bool false), (.bool false), (.bool false), (.bool false), (.bool false), (.bool false), (.bool false), (.bool false), (.bool false), (.bool false), (.bool false), (.bool false), (.bool false), (.bool false), (.bool false), (.bool false), (.bool false), (.bool false), (.bool false), (.bool false), (.bool false), (.bool false), (.bool false), (.bool false), (.bool false), (.bool false), (.bool false), (.bool false), (.bool false), (.bool false), (.bool false), (.bool false), (.bool false), (.bool false), (.bool false), (.bool false), (.bool false), (.bool false), (.bool false), (.bool false), (.bool false), (.bool false), (.bool false), (.bool false), (.bool false), (.bool false), (.bool false), (.bool false), (.bool false), (.bool false), (.bool false), (.bool false), (.bool false), (.bool false), (.bool false), (.bool false), (.bool false), (.bool false), (.bool false), (.bool false), (.bool false), (.bool false), (.bool false), (.bool false), (.bool false), (.bool false), (.bool false), (.bool false), (.bool false), (.bool false), (.bool false), (.bool false), (.bool false), (.bool false), (.bool false), (.bool false), (.bool false), (.bool false), (.bool false), (.bool false), (.bool false), (.bool false), (.bool false), (.bool false), (.bool false), (.bool false), (.bool false), (.bool false), (.bool false), (.bool false), (.bool false), (.bool false), (.bool false), (.bool false), (.bool false), (.bool false), (.bool false), (.bool false), (.bool false), (.bool false), (.bool false), (.bool false), (.bool false), (.bool false), (.bool false), (.bool false), (.bool false), (.bool false), (.bool false), (.bool false), (.bool false), (.bool false), (.bool false), (.bool false), (.bool false), (.bool false), (.bool false), (.bool false), (.bool false), (.bool false), (.bool false), (.bool false), (.bool false), (.bool false), (.bool false), (.bool false), (.bool false), (.bool false), (.bool false), (.bool false), (.bool false), (.bool false), (.bool false), (.bool false), (.bool false), (.bool false), (.bool false), (.bool false), (.bool false), (.bool false), (.bool false), (.bool false), (.bool false), (.bool false), (.bool false), (.bool false), (.bool false), (.bool false), (.bool false), (.bool false), (.bool false), (.bool false), (.bool false), (.bool false), (.bool false), (.bool false), (.bool false), (.bool false), (.bool false), (.bool false), (.bool false), (.bool false), (.bool false), (.bool false), (.bool false), (.bool false), (.bool false), (.bool false), (.bool false), (.bool false), (.bool false), (.bool false), (.bool false), (.bool false), (.bool false), (.bool false), (.bool false), (.bool false), (.bool false), (.bool false), (.bool false), (.bool false), (.bool false), (.bool false), (.bool false), (.bool false), (.bool false), (.bool false), (.bool false), (.bool false), (.bool false), (.bool false), (.bool false), (.bool false), (.bool false), (.bool false), (.bool false), (.bool false), (.bool false), (.bool false), (.bool false), (.bool false), (.bool false), (.bool false), (.bool false), (.bool false), (.bool false), (.bool false), (.bool false), (.bool false), (.bool false), (.bool false), (.bool false), (.bool false), (.bool false), (.bool false), (.bool false), (.bool false), (.bool false), (.bool false), (.bool false), (.bool false), (.bool false), (.bool false), (.bool false), (.bool false), (.bool false), (.bool false), (.bool false), (.bool false), (.bool false), (.bool false), (.bool false), (.bool false), (.bool false), (.bool false), (.bool false), (.bool false), (.bool false), (.bool false), (.bool false), (.bool false), (.bool false), (.bool false), (.bool false), (.bool false), (.bool false), (.bool false), (.bool false), (.bool false), (.bool false), (.bool false), (.bool false), (.bool false), (.bool false), (.bool false), (.bool false), (.bool false), (.bool false), (.bool false), (.bool false), (.bool false), (.bool false), (.bool false), (.bool false), (.bool false), (.bool false), (.bool false), (.bool false), (.bool false), (.bool false), (.bool false), (.bool false), (.bool false), (.bool false), (.bool false), (.bool false), (.bool false), (.bool false), (.bool false), (.bool false), (.bool false), (.bool false), (.bool false), (.bool false), (.bool false), (.bool false), (.bool false), (.bool false), (.bool false), (.bool false), (.bool false), (.bool false), (.bool false), (.bool false), (.bool false), (.bool false), (.bool false), (.bool false), (.bool false), (.bool false), (.bool false), (.bool false), (.bool false), (.bool false), (.bool false), (.bool false), (.bool false), (.bool false), (.bool false), (.bool false), (.bool false), (.bool false), (.bool false), (.bool false), (.bool false), (.bool false), (.bool false), (.bool false), (.bool false), (.bool false), (.bool false), (.bool false), (.bool false), (.bool false), (.bool false), (.bool false), (.bool false), (.bool false), (.bool false), (.bool false), (.bool false), (.bool false), (.bool false), (.bool false), (.bool false), (.bool false), (.bool false), (.bool false), (.bool false), (.bool false), (.bool false), (.bool false), (.bool false), (.bool false), (.bool false), (.bool false), (.bool false), (.bool false), (.bool false), (.bool false), (.bool false), (.bool false), (.bool false), (.bool false), (.bool false), (.bool false), (.bool false), (.bool false), (.bool false), (.bool false), (.bool false), (.bool false), (.bool false), (.bool false), (.bool false), (.bool false), (.bool false), (.bool false), (.bool false), (.bool false), (.bool false), (.bool false), (.bool false), (.bool false), (.bool false), (.bool false), (.bool false), (.bool false), (.bool false), (.bool false), (.bool false), (.bool false), (.bool false), (.bool false), (.bool false), (.bool false), (.bool false), (.bool false), (.bool false), (.bool false), (.bool false), (.bool false), (.bool false), (.bool false), (.bool false), (.bool false), (.bool false), (.bool false), (.bool false), (.bool false), (.bool false), (.bool false), (.bool false), (.bool false), (.bool false), (.bool false), (.bool false), (.bool false), (.bool false), (.bool false), (.bool false), (.bool false), (.bool false), (.bool false), (.bool false), (.bool false), (.bool false), (.bool false), (.bool false), (.bool false), (.bool false), (.bool false), (.bool false), (.bool false), (.bool false), (.bool false), (.bool false), (.bool false), (.bool false), (.bool false), (.bool false), (.bool false), (.bool false), (.bool false), (.bool false), (.bool false), (.bool false), (.bool false), (.bool false), (.bool false), (.bool false), (.bool false), (.bool false), (.bool false), (.bool false), (.bool false), (.bool false), (.bool false), (.bool false), (.bool false), (.bool false), (.bool false), (.bool false), (.bool false), (.bool false), (.bool false), (.bool false), (.bool false), (.bool false), (.bool false), (.bool false), (.bool false), (.bool false), (.bool false), (.bool false), (.bool false), (.bool false), (.bool false), (.bool false), (.bool false), (.bool false), (.bool false), (.bool false), (.bool false), (.bool false), (.bool false), (.bool false), (.bool false), (.bool false), (.bool false), (.bool false), (.bool false), (.bool false), (.bool false), (.bool false), (.bool false), (.bool false), (.bool false), (.bool false), (.bool false), (.bool false), (.bool false), (.bool false), (.bool false), (.bool false), (.bool false), (.bool false), (.bool false), (.bool false), (.bool false), (.bool false), (.bool false), (.bool false), (.bool false), (.bool false), (.bool false), (.bool false), (.bool false), (.bool false), (.bool false), (.bool false), (.bool false), (.bool false), (.bool false), (.bool false), (.bool false), (.bool false), (.bool false), (.bool false), (.bool false), (.bool false), (.bool false), (.bool false), (.bool false), (.bool false), (.bool false), (.bool false), (.bool false), (.bool false), (.bool false), (.bool false), (.bool false), (.bool false), (.bool false), (.bool false), (.bool false), (.bool false), (.bool false), (.bool false), (.bool false), (.bool false), (.bool false), (.bool false), (.bool false), (.bool false), (.bool false), (.bool false), (.bool false), (.bool false), (.bool false), (.bool false), (.bool false), (.bool false), (.bool false), (.bool false), (.bool false), (.bool false), (.bool false), (.bool false), (.bool false), (.bool false), (.bool false), (.bool false), (.bool false), (.bool false), (.bool false), (.bool false), (.bool false), (.bool false), (.bool false), (.bool false), (.bool false), (.bool false), (.bool false), (.bool false), (.bool false), (.bool false), (.bool false), (.bool false), (.bool false), (.bool false), (.bool false), (.bool false), (.bool false), (.bool false), (.bool false), (.bool false), (.bool false), (.bool false), (.bool false), (.bool false), (.bool false), (.bool false), (.bool false), (.bool false), (.bool false), (.bool false), (.bool false), (.bool false), (.bool false), (.bool false), (.bool false), (.bool false), (.bool false), (.bool false), (.bool false), (.bool false), (.bool false), (.bool false), (.bool false), (.bool false), (.bool false), (.bool false), (.bool false), (.bool false), (.bool false), (.bool false), (.bool false), (.bool false), (.bool false), (.bool false), (.bool false), (.bool false), (.bool false), (.bool false), (.bool false), (.bool false), (.bool false), (.bool false), (.bool false), (.bool false), (.bool false), (.bool false), (.bool false), (.bool false), (.bool false), (.bool false), (.bool false), (.bool false), (.bool false), (.bool false), (.bool false), (.bool false), (.bool false), (.bool false), (.bool false), (.bool false), (.bool false), (.bool false), (.bool false), (.bool false), (.bool false), (.bool false), (.bool false), (.bool false), (.bool false), (.bool false), (.bool false), (.bool false), (.bool false), (.bool false), (.bool false), (.bool false), (.bool false), (.bool false), (.bool false), (.bool false), (.bool false), (.bool false), (.bool false), (.bool false), (.bool false), (.bool false), (.bool false), (.bool false), (.bool false), (.bool false), (.bool false), (.bool false), (.bool false), (.bool false), (.bool false), (.bool false), (.bool false), (.bool false), (.bool false), (.bool false), (.bool false), (.bool false), (.bool false), (.bool false), (.bool false), (.bool false), (.bool false), (.bool false), (.bool false), (.bool false), (.bool false), (.bool false), (.bool false), (.bool false), (.bool false), (.bool false), (.bool false), (.bool false), (.bool false), (.bool false), (.bool false), (.bool false), (.bool false), (.bool false), (.bool false), (.bool false), (.bool false), (.bool false), (.bool false), (.bool false), (.bool false), (.bool false), (.bool false), (.bool false), (.bool false), (.bool false), (.bool false), (.bool false), (.bool false), (.bool false), (.bool false), (.bool false), (.bool false), (.bool false), (.bool false), (.bool false), (.bool false), (.bool false), (.bool false), (.bool false), (.bool false), (.bool false), (.bool false), (.bool false), (.bool false), (.bool false), (.bool false), (.bool false), (.bool false), (.bool false), (.bool false), (.bool false), (.bool false), (.bool false), (.bool false), (.bool false), (.bool false), (.bool false), (.bool false), (.bool false), (.bool false), (.bool false), (.bool false), (.bool false), (.bool false), (.bool false), (.bool false), (.bool false), (.bool false), (.bool false), (.bool false), (.bool false), (.bool false), (.bool false), (.bool false), (.bool false), (.bool false), (.bool false), (.bool false), (.bool false), (.bool false), (.bool false), (.bool false), (.bool false), (.bool false), (.bool false), (.bool false), (.bool false), (.bool false), (.bool false), (.bool false), (.bool false), (.bool false), (.bool false), (.bool false), (.bool false), (.bool false), (.bool false), (.bool false), (.bool false), (.bool false), (.bool false), (.bool false), (.bool false), (.bool false), (.bool false), (.bool false), (.bool false), (.bool false), (.bool false), (.bool false), (.bool false), (.bool false), (.bool false), (.bool false), (.bool false), (.bool false), (.bool false), (.bool false), (.bool false), (.bool false), (.bool false), (.bool false), (.bool false), (.bool false), (.bool false), (.bool false), (.bool false), (.bool false), (.bool false), (.bool false), (.bool false), (.bool false), (.bool false), (.bool false), (.bool false), (.bool false), (.bool false), (.bool false), (.bool false), (.bool false), (.bool false), (.bool false), (.bool false), (.bool false), (.bool false), (.bool false), (.bool false), (.bool false), (.bool false), (.bool false), (.bool false), (.bool false), (.bool false), (.bool false), (.bool false), (.bool false), (.bool false), (.bool false), (.bool false), (.bool false), (.bool false), (.bool false), (.bool false), (.bool false), (.bool false), (.bool false), (.bool false), (.bool false), (.bool false), (.bool false), (.bool false), (.bool false), (.bool false), (.bool false), (.bool false), (.bool false), (.bool false), (.bool false), (.bool false), (.bool false), (.bool false), (.bool false), (.bool false), (.bool false), (.bool false), (.bool false), (.bool false), (.bool false), (.bool false), (.bool false), (.bool false), (.bool false), (.bool false), (.bool false), (.bool false), (.bool false), (.bool false), (.bool false), (.bool false), (.bool false), (.bool false), (.bool false), (.bool false), (.bool false), (.bool false), (.bool false), (.bool false), (.bool false), (.bool false), (.bool false), (.bool false), (.bool false), (.bool false), (.bool false), (.bool false), (.bool false), (.bool false), (.bool false), (.bool false), (.bool false), (.bool false), (.bool false), (.bool false), (.bool false), (.bool false), (.bool false), (.bool false), (.bool false), (.bool false), (.bool false), (.bool false), (.bool false), (.bool false), (.bool false), (.bool false), (.bool false), (.bool false), (.bool false), (.bool false), (.bool false), (.bool false), (.bool false), (.bool false), (.bool false), (.bool false), (.bool false), (.bool false), (.bool false), (.bool false), (.bool false), (.bool false), (.bool false), (.bool false), (.bool false), (.bool false), (.bool false), (.bool false), (.bool false), (.bool false), (.bool false), (.bool false), (.bool false), (.bool false), (.bool false), (.bool false), (.bool false), (.bool false), (.bool false), (.bool false), (.bool false), (.bool false), (.bool false), (.bool false), (.bool false), (.bool false), (.bool false), (.bool false), (.bool false), (.bool false), (.bool false), (.bool false), (.bool false), (.bool false), (.bool false), (.bool false), (.bool false), (.bool false), (.bool false), (.bool false), (.bool false), (.bool false), (.bool false), (.bool false), (.bool false), (.bool false), (.bool false), (.bool false), (.bool false), (.bool false), (.bool false), (.bool false), (.bool false), (.bool false), (.bool false), (.bool false), (.bool false), (.bool false), (.bool false), (.bool false), (.bool false), (.bool false), (.bool false), (.bool false), (.bool false), (.bool false), (.bool false), (.bool false), (.bool false), (.bool false), (.bool false), (.bool false), (.bool false), (.bool false), (.bool false), (.bool false), (.bool false), (.bool false), (.bool false), (.bool false), (.bool false), (.bool false), (.bool false), (.bool false), (.bool false), (.bool false), (.bool false), (.bool false), (.bool false), (.bool false), (.bool false), (.bool false), (.bool false), (.bool false), (.bool false), (.bool false), (.bool false), (.bool false), (.bool false), (.bool false), (.bool false), (.bool false), (.bool false), (.bool false), (.bool false), (.bool false), (.bool false), (.bool false), (.bool false), (.bool false), (.bool false), (.bool false), (.bool false), (.bool false), (.bool false), (.bool false), (.bool false), (.bool false), (.bool false), (.bool false), (.bool false), (.bool false), (.bool false), (.bool false), (.bool false), (.bool false), (.bool false), (.bool false), (.bool false), (.bool false), (.bool false), (.bool false), (.bool false), (.bool false), (.bool false), (.bool false), (.bool false), (.bool false), (.bool false), (.bool false), (.bool false), (.bool false), (.bool false), (.bool false), (.bool false), (.bool false), (.bool false), (.bool false), (.bool false), (.bool false), (.bool false), (.bool false), (.bool false), (.bool false), (.bool false), (.bool false), (.bool false), (.bool false), (.bool false), (.bool false), (.bool false), (.bool false), (.bool false), (.bool false), (.bool false), (.bool false), (.bool false), (.bool false), (.bool false), (.bool false), (.bool false), (.bool false), (.bool false), (.bool false), (.bool false), (.bool false), (.bool false), (.bool false), (.bool false), (.bool false), (.bool false), (.bool false), (.bool false), (.bool false), (.bool false), (.bool false), (.bool false), (.bool false), (.bool false), (.bool false), (.bool false), (.bool false), (.bool false), (.bool false), (.bool false), (.bool false), (.bool false), (.bool false), (.bool false), (.bool false), (.bool false), (.bool false), (.bool false), (.bool false), (.bool false), (.bool false), (.bool false), (.bool false), (.bool false), (.bool false), (.bool false), (.bool false), (.bool false), (.bool false), (.bool false), (.bool false), (.bool false), (.bool false), (.bool false), (.bool false), (.bool false), (.bool false), (.bool false), (.bool false), (.bool false), (.bool false), (.bool false), (.bool false), (.bool false), (.bool false), (.bool false), (.bool false), (.bool false), (.bool false), (.bool false), (.bool false), (.bool false), (.bool false), (.bool false), (.bool false), (.bool false), (.bool false), (.bool false), (.bool false), (.bool false), (.bool false), (.bool false), (.bool false), (.bool false), (.bool false), (.bool false), (.bool false), (.bool false), (.bool false), (.bool false), (.bool false), (.bool false), (.bool false), (.bool false), (.bool false), (.bool false), (.bool false), (.bool false), (.bool false), (.bool false), (.bool false), (.bool false), (.bool false), (.bool false), (.bool false), (.bool false), (.bool false), (.bool false), (.bool false), (.bool false), (.bool false), (.bool false), (.bool false), (.bool false), (.bool false), (.bool false), (.bool false), (.bool false), (.bool false), (.bool false), (.bool false), (.bool false), (.bool false), (.bool false), (.bool false), (.bool false), (.bool false), (.bool false), (.bool false), (.bool false), (.bool false), (.bool false), (.bool false), (.bool false), (.bool false), (.bool false), (.bool false), (.bool false), (.bool false), (.bool false), (.bool false), (.bool false), (.bool false), (.bool false), (.bool false), (.bool false), (.bool false), (.bool false), (.bool false), (.bool false), (.bool false), (.bool false), (.bool false), (.bool false), (.bool false), (.bool false), (.bool false), (.bool false), (.bool false), (.bool false), (.bool false), (.bool false), (.bool false), (.bool false), (.bool false), (.bool false), (.bool false), (.bool false), (.bool false), (.bool false), (.bool false), (.bool false), (.bool false), (.bool false), (.bool false), (.bool false), (.bool false), (.bool false), (.bool false), (.bool false), (.bool false), (.bool false), (.bool false), (.bool false), (.bool false), (.bool false), (.bool false), (.bool false), (.bool false), (.bool false), (.bool false), (.bool false), (.bool false), (.bool false), (.bool false), (.bool false), (.bool false), (.bool false), (.bool false), (.bool false), (.bool false), (.bool false), (.bool false), (.bool false), (.bool false), (.bool false), (.bool false), (.bool false), (.bool false), (.bool false), (.bool false), (.bool false), (.bool false), (.bool false), (.bool false), (.bool false), (.bool false), (.bool false), (.bool false), (.bool false), (.bool false), (.bool false), (.bool false), (.bool false), (.bool false), (.bool false), (.bool false), (.bool false), (.bool false), (.bool false), (.bool false), (.bool false), (.bool false), (.bool false), (.bool false), (.bool false), (.bool false), (.bool false), (.bool false), (.bool false), (.bool false), (.bool false), (.bool false), (.bool false), (.bool false), (.bool false), (.bool false), (.bool false), (.bool false), (.bool false), (.bool false), (.bool false), (.bool false), (.bool false), (.bool false), (.bool false), (.bool false), (.bool false), (.bool false), (.bool false), (.bool false), (.bool false), (.bool false), (.bool false), (.bool false), (.bool false), (.bool false), (.bool false), (.bool false), (.bool false), (.bool false), (.bool false), (.bool false), (.bool false), (.bool false), (.bool false), (.bool false), (.bool false), (.bool false), (.bool false), (.bool false), (.bool false), (.bool false), (.bool false), (.bool false), (.bool false), (.bool false), (.bool false), (.bool false), (.bool false), (.bool false), (.bool false), (.bool false), (.bool false), (.bool false), (.bool false), (.bool false), (.bool false), (.bool false), (.bool false), (.bool false), (.bool false), (.bool false), (.bool false), (.bool false), (.bool false), (.bool false), (.bool false), (.bool false), (.bool false), (.bool false), (.bool false), (.bool false), (.bool false), (.bool false), (.bool false), (.bool false), (.bool false), (.bool false), (.bool false), (.bool false), (.bool false), (.bool false), (.bool false), (.bool false), (.bool false), (.bool false), (.bool false), (.bool false), (.bool false), (.bool false), (.bool false), (.bool false), (.bool false), (.bool false), (.bool false), (.bool false), (.bool false), (.bool false), (.bool false), (.bool false), (.bool false), (.bool false), (.bool false), (.bool false), (.bool false), (.bool false), (.bool false), (.bool false), (.bool false), (.bool false), (.bool false), (.bool false), (.bool false), (.bool false), (.bool false), (.bool false), (.bool false), (.bool false), (.bool false), (.bool false), (.bool false), (.bool false), (.bool false), (.bool false), (.bool false), (.bool false), (.bool false), (.bool false), (.bool false), (.bool false), (.bool false), (.bool false), (.bool false), (.bool false), (.bool false), (.bool false), (.bool false), (.bool false), (.bool false), (.bool false), (.bool false), (.bool false), (.bool false), (.bool false), (.bool false), (.bool false), (.bool false), (.bool false), (.bool false), (.bool false), (.bool false), (.bool false), (.bool false), (.bool false), (.bool false), (.bool false), (.bool false), (.bool false), (.bool false), (.bool false), (.bool false), (.bool false), (.bool false), (.bool false), (.bool false), (.bool false), (.bool false), (.bool false), (.bool false), (.bool false), (.bool false), (.bool false), (.bool false), (.bool false), (.bool false), (.bool false), (.bool false), (.bool false), (.bool false), (.bool false), (.bool false), (.bool false), (.bool false), (.bool false), (.bool false), (.bool false), (.bool false), (.bool false), (.bool false), (.bool false), (.bool false), (.bool false), (.bool false), (.bool false), (.bool false), (.bool false), (.bool false), (.bool false), (.bool false), (.bool false), (.bool false), (.bool false), (.bool false), (.bool false), (.bool false), (.bool false), (.bool false), (.bool false), (.bool false), (.bool false), (.bool false), (.bool false), (.bool false), (.bool false), (.bool false), (.bool false), (.bool false), (.bool false), (.bool false), (.bool false), (.bool false), (.bool false), (.bool false), (.bool false), (.bool false), (.bool false), (.bool false), (.bool false), (.bool false), (.bool false), (.bool false), (.bool false), (.bool false), (.bool false), (.bool false), (.bool false), (.bool false), (.bool false), (.bool false), (.bool false), (.bool false), (.bool false), (.bool false), (.bool false), (.bool false), (.bool false), (.bool false), (.bool false), (.bool false), (.bool false), (.bool false), (.bool false), (.bool false), (.bool false), (.bool false), (.bool false), (.bool false), (.bool false), (.bool false), (.bool false), (.bool false), (.bool false), (.bool false), (.bool false), (.bool false), (.bool false), (.bool false), (.bool false), (.bool false), (.bool false), (.bool false), (.bool false), (.bool false), (.bool false), (.bool false), (.bool false), (.bool false), (.bool false), (.bool false), (.bool false), (.bool false), (.bool false), (.bool false), (.bool false), (.bool false), (.bool false), (.bool false), (.bool false), (.bool false), (.bool false), (.bool false), (.bool false), (.bool false), (.bool false), (.bool false), (.bool false), (.bool false), (.bool false), (.bool false), (.bool false), (.bool false), (.bool false), (.bool false), (.bool false), (.bool false), (.bool false), (.bool false), (.bool false), (.bool false), (.bool false), (.bool false), (.bool false), (.bool false), (.bool false), (.bool false), (.bool false), (.bool false), (.bool false), (.bool false), (.bool false), (.bool false), (.bool false), (.bool false), (.bool false), (.bool false), (.bool false), (.bool false), (.bool false), (.bool false), (.bool false), (.bool false), (.bool false), (.bool false), (.bool false), (.bool false), (.bool false), (.bool false), (.bool false), (.bool false), (.bool false), (.bool false), (.bool false), (.bool false), (.bool false), (.bool false), (.bool false), (.bool false), (.bool false), (.bool false), (.bool false), (.bool false), (.bool false), (.bool false), (.bool false), (.bool false), (.bool false), (.bool false), (.bool false), (.bool false), (.bool false), (.bool false), (.bool false), (.bool false), (.bool false), (.bool false), (.bool false), (.bool false), (.bool false), (.bool false), (.bool false), (.bool false), (.bool false), (.bool false), (.bool false), (.bool false), (.bool false), (.bool false), (.bool false), (.bool false), (.bool false), (.bool false), (.bool false), (.bool false), (.bool false), (.bool false), (.bool false), (.bool false), (.bool false), (.bool false), (.bool false), (.bool false), (.bool false), (.bool false), (.bool false), (.bool false), (.bool false), (.bool false), (.bool false), (.bool false), (.bool false), (.bool false), (.bool false), (.bool false), (.bool false), (.bool false), (.bool false), (.bool false), (.bool false), (.bool false), (.bool false), (.bool false), (.bool false), (.bool false), (.bool false), (.bool false), (.bool false), (.bool false), (.bool false), (.bool false), (.bool false), (.bool false), (.bool false), (.bool false), (.bool false), (.bool false), (.bool false), (.bool false), (.bool false), (.bool false), (.bool false), (.bool false), (.bool false), (.bool false), (.bool false), (.bool false), (.bool false), (.bool false), (.bool false), (.bool false), (.bool false), (.bool false), (.bool false), (.bool false), (.bool false), (.bool false), (.bool false), (.bool false), (.bool false), (.bool false), (.bool false), (.bool false), (.bool false), (.bool false), (.bool false), (.bool false), (.bool false), (.bool false), (.bool false), (.bool false), (.bool false), (.bool false), (.bool false), (.bool false), (.bool false), (.bool false), (.bool false), (.bool false), (.bool false), (.bool false), (.bool false), (.bool false), (.bool false), (.bool false), (.bool false), (.bool false), (.bool false), (.bool false), (.bool false), (.bool false), (.bool false), (.bool false), (.bool false), (.bool false), (.bool false), (.bool false), (.bool false), (.bool false), (.bool false), (.bool false), (.bool false), (.bool false), (.bool false), (.bool false), (.bool false), (.bool false), (.bool false), (.bool false), (.bool false), (.bool false), (.bool false), (.bool false), (.bool false), (.bool false), (.bool false), (.bool false), (.bool false), (.bool false), (.bool false), (.bool false), (.bool false), (.bool false), (.bool false), (.bool false), (.bool false), (.bool false), (.bool false), (.bool false), (.bool false), (.bool false), (.bool false), (.bool false), (.bool false), (.bool false), (.bool false), (.bool false), (.bool false), (.bool false), (.bool false), (.bool false), (.bool false), (.bool false), (.bool false), (.bool false), (.bool false), (.bool false), (.bool false), (.bool false), (.bool false), (.bool false), (.bool false), (.bool false), (.bool false), (.bool false), (.bool false), (.bool false), (.bool false), (.bool false), (.bool false), (.bool false), (.bool false), (.bool false), (.bool false), (.bool false), (.bool false), (.bool false), (.bool false), (.bool false), (.bool false), (.bool false), (.bool false), (.bool false), (.bool false), (.bool false), (.bool false), (.bool false), (.bool false), (.bool false), (.bool false), (.bool false), (.bool false), (.bool false), (.bool false), (.bool false), (.bool false), (.bool false), (.bool false), (.bool false), (.bool false), (.bool false), (.bool false), (.bool false), (.bool false), (.bool false), (.bool false), (.bool false), (.bool false), (.bool false), (.bool false), (.bool false), (.bool false), (.bool false), (.bool false), (.bool false), (.bool false), (.bool false), (.bool false), (.bool false), (.bool false), (.bool false), (.bool false), (.bool false), (.bool false), (.bool false), (.bool false), (.bool false), (.bool false), (.bool false), (.bool false), (.bool false), (.bool false), (.bool false), (.bool false), (.bool false), (.bool false), (.bool false), (.bool false), (.bool false), (.bool false), (.bool false), (.bool false), (.bool false), (.bool false), (.bool false), (.bool false), (.bool false), (.bool false), (.bool false), (.bool false), (.bool false), (.bool false), (.bool false), (.bool false), (.bool false), (.bool false), (.bool false), (.bool false), (.bool false), (.bool false), (.bool false), (.bool false), (.bool false), (.bool false), (.bool false), (.bool false), (.bool false), (.bool false), (.bool false), (.bool false), (.bool false), (.bool false), (.bool false), (.bool false), (.bool false), (.bool false), (.bool false), (.bool false), (.bool false), (.bool false), (.bool false), (.bool false), (.bool false), (.bool false), (.bool false), (.bool false), (.bool false), (.bool false), (.bool false), (.bool false), (.bool false), (.bool false), (.bool false), (.bool false), (.bool false), (.bool false), (.bool false), (.bool false), (.bool false), (.bool false), (.bool false), (.bool false), (.bool false), (.bool false), (.bool false), (.bool false), (.bool false), (.bool false), (.bool false), (.bool false), (.bool false), (.bool false), (.bool false), (.bool false), (.bool false), (.bool false), (.bool false), (.bool false), (.bool false), (.bool false), (.bool false), (.bool false), (.bool false), (.bool false), (.bool false), (.bool false), (.bool false), (.bool false), (.bool false), (.bool false), (.bool false), (.bool false), (.bool false), (.bool false), (.bool false), (.bool false), (.bool false), (.bool false), (.bool false), (.bool false), (.bool false), (.bool false), (.bool false), (.bool false), (.bool false), (.bool false), (.bool false), (.bool false), (.bool false), (.bool false), (.bool false), (.bool false), (.bool false), (.bool false), (.bool false), (.bool false), (.bool false), (.bool false), (.bool false), (.bool false), (.bool false), (.bool false), (.bool false), (.bool false), (.bool false), (.bool false), (.bool false), (.bool false), (.bool false), (.bool false), (.bool false), (.bool false), (.bool false), (.bool false), (.bool false), (.bool false), (.bool false), (.bool false), (.bool false), (.bool false), (.bool false), (.bool false), (.bool false), (.bool false), (.bool false), (.bool false), (.bool false), (.bool false), (.bool false), (.bool false), (.bool false), (.bool false), (.bool false), (.bool false), (.bool false), (.bool false), (.bool false), (.bool false), (.bool false), (.bool false), (.bool false), (.bool false), (.bool false), (.bool false), (.bool false), (.bool false), (.bool false), (.bool false), (.bool false), (.bool false), (.bool false), (.bool false), (.bool false), (.bool false), (.bool false), (.bool false), (.bool false), (.bool false), (.bool false), (.bool false), (.bool false), (.bool false), (.bool false), (.bool false), (.bool false), (.bool false), (.bool false), (.bool false), (.bool false), (.bool false), (.bool false), (.bool false), (.bool false), (.bool false), (.bool false), (.bool false), (.bool false), (.bool false), (.bool false), (.bool false), (.bool false), (.bool false), (.bool false), (.bool false), (.bool false), (.bool false), (.bool false), (.bool false), (.bool false), (.bool false), (.bool false), (.bool false), (.bool false), (.bool false), (.bool false), (.bool false), (.bool false), (.bool false), (.bool false), (.bool false), (.bool false), (.bool false), (.bool false), (.bool false), (.bool false), (.bool false), (.bool false), (.bool false), (.bool false), (.bool false), (.bool false), (.bool false), (.bool false), (.bool false), (.bool false), (.bool false), (.bool false), (.bool false), (.bool false), (.bool false), (.bool false), (.bool false), (.bool false), (.bool false), (.bool false), (.bool false), (.bool false), (.bool false), (.bool false), (.bool false), (.bool false), (.bool false), (.bool false), (.bool false), (.bool false), (.bool false), (.bool false), (.bool false), (.bool false), (.bool false), (.bool false), (.bool false), (.bool false), (.bool false), (.bool false), (.bool false), (.bool false), (.bool false), (.bool false), (.bool false), (.bool false), (.bool false), (.bool false), (.bool false), (.bool false), (.bool false), (.bool false), (.bool false), (.bool false), (.bool false), (.bool false), (.bool false), (.bool false), (.bool false), (.bool false), (.bool false), (.bool false), (.bool false), (.bool false), (.bool false), (.bool false), (.bool false), (.bool false), (.bool false), (.bool false), (.bool false), (.bool false), (.bool false), (.bool false), (.bool false), (.bool false), (.bool false), (.bool false), (.bool false), (.bool false), (.bool false), (.bool false), (.bool false), (.bool false), (.bool false), (.bool false), (.bool false), (.bool false), (.bool false), (.bool false), (.bool false), (.bool false), (.bool false), (.bool false), (.bool false), (.bool false), (.bool false), (.bool false), (.bool false), (.bool false), (.bool false), (.bool false), (.bool false), (.bool false), (.bool false), (.bool false), (.bool false), (.bool false), (.bool false), (.bool false), (.bool false), (.bool false), (.bool false), (.bool false), (.bool false), (.bool false), (.bool false), (.bool false), (.bool false), (.bool false), (.bool false), (.bool false), (.bool false), (.bool false), (.bool false), (.bool false), (.bool false), (.bool false), (.bool false), (.bool false), (.bool false), (.bool false), (.bool false), (.bool false), (.bool false), (.bool false), (.bool false), (.bool false), (.bool false), (.bool false), (.bool false), (.bool false), (.bool false), (.bool false), (.bool false), (.bool false), (.bool false), (.bool false), (.bool false), (.bool false), (.bool false), (.bool false), (.bool false), (.bool false), (.bool false), (.bool false), (.bool false), (.bool false), (.bool false), (.bool false), (.bool false), (.bool false), (.bool false), (.bool false), (.bool false), (.bool false), (.bool false), (.bool false), (.bool false), (.bool false), (.bool false), (.bool false), (.bool false), (.bool false), (.bool false), (.bool false), (.bool false), (.bool false), (.bool false), (.bool false), (.bool false), (.bool false), (.bool false), (.bool false), (.bool false), (.bool false), (.bool false), (.bool false), (.bool false), (.bool false), (.bool false), (.bool false), (.bool false), (.bool false), (.bool false), (.bool false), (.bool false), (.bool false), (.bool false), (.bool false), (.bool false), (.bool false), (.bool false), (.bool false), (.bool false), (.bool false), (.bool false), (.bool false), (.bool false), (.bool false), (.bool false), (.bool false), (.bool false), (.bool false), (.bool false), (.bool false), (.bool false), (.bool false), (.bool false), (.bool false), (.bool false), (.bool false), (.bool false), (.bool false), (.bool false), (.bool false), (.bool false), (.bool false), (.bool false), (.bool false), (.bool false), (.bool false), (.bool false), (.bool false), (.bool false), (.bool false), (.bool false), (.bool false), (.bool false), (.bool false), (.bool false), (.bool false), (.bool false), (.bool false), (.bool false), (.bool false), (.bool false), (.bool false), (.bool false), (.bool false), (.bool false), (.bool false), (.bool false), (.bool false), (.bool false), (.bool false), (.bool false), (.bool false), (.bool false), (.bool false), (.bool false), (.bool false), (.bool false), (.bool false), (.bool false), (.bool false), (.bool false), (.bool false), (.bool false), (.bool false), (.bool false), (.bool false), (.bool false), (.bool false), (.bool false), (.bool false), (.bool false), (.bool false), (.bool false), (.bool false), (.bool false), (.bool false), (.bool false), (.bool false), (.bool false), (.bool false), (.bool false), (.bool false), (.bool false), (.bool false), (.bool false), (.bool false), (.bool false), (.bool false), (.bool false), (.bool false), (.bool false), (.bool false), (.bool false), (.bool false), (.bool false), (.bool false), (.bool false), (.bool false), (.bool false), (.bool false), (.bool false), (.bool false), (.bool false), (.bool false), (.bool false), (.bool false), (.bool false), (.bool false), (.bool false), (.bool false), (.bool false), (.bool false), (.bool false), (.bool false), (.bool false), (.bool false), (.bool false), (.bool false), (.bool false), (.bool false), (.bool false), (.bool false), (.bool false), (.bool false), (.bool false), (.bool false), (.bool false), (.bool false), (.bool false), (.bool false), (.bool false), (.bool false), (.bool false), (.bool false), (.bool false), (.bool false), (.bool false), (.bool false), (.bool false), (.bool false), (.bool false), (.bool false), (.bool false), (.bool false), (.bool false), (.bool false), (.bool false), (.bool false), (.bool false), (.bool false), (.bool false), (.bool false), (.bool false), (.bool false), (.bool false), (.bool false), (.bool false), (.bool false), (.bool false), (.bool false), (.bool false), (.bool false), (.bool false), (.bool false), (.bool false), (.bool false), (.bool false), (.bool false), (.bool false), (.bool false), (.bool false), (.bool false), (.bool false), (.bool false), (.bool false), (.bool false), (.bool false), (.bool false), (.bool false), (.bool false), (.bool false), (.bool false), (.bool false), (.bool false), (.bool false), (.bool false), (.bool false), (.bool false), (.bool false), (.bool false), (.bool false), (.bool false), (.bool false), (.bool false), (.bool false), (.bool false), (.bool false), (.bool false), (.bool false), (.bool false), (.bool false), (.bool false), (.bool false), (.bool false), (.bool false), (.bool false), (.bool false), (.bool false), (.bool false), (.bool false), (.bool false), (.bool false), (.bool false), (.bool false), (.bool false), (.bool false), (.bool false), (.bool false), (.bool false), (.bool false), (.bool false), (.bool false), (.bool false), (.bool false), (.bool false), (.bool false)]⟩]
@[simp] def c_law2_DiskFlushed_r6 : List Ir := [⟨(some 10), none, .mov (.c (.int .i64 0))⟩]
@[simp] def c_law2_DiskFlushed_r7 : List Ir := [⟨(some 26), none, .mov (.t 10)⟩,
  ⟨(some 27), none, .mov (.t 0)⟩,
  ⟨(some 28), none, .lenV (.t 27)⟩,
  ⟨(some 29), none, .bin .lss 3 (.t 26) (.t 28)⟩,
  ⟨(some 30), none, .mov (.t 29)⟩,
  ⟨(some 31), (some (30, true)), .mov (.t 10)⟩,
  ⟨(some 32), (some (30, true)), .bin .lss 3 (.t 31) (.c (.int .i64 40))⟩,
  ⟨(some 33), none, .pick (.t 30) (.t 32) (.c (.bool false))⟩]
@[simp] def c_law2_DiskFlushed_r8 : List Ir := [⟨(some 36), none, .mov (.t 0)⟩,
  ⟨(some 37), none, .mov (.t 10)⟩,
  ⟨(some 38), none, .iadrS 1 (.t 36) (.t 37)⟩,
  ⟨(some 39), none, .ld (.t 38)⟩,
  ⟨(some 40), none, .bin .and 3 (.t 39) (.c (.int .i64 63))⟩,
  ⟨(some 11), none, .mov (.t 40)⟩]
@[simp] def c_law2_DiskFlushed_r9 : List Ir := [⟨(some 42), none, .ldn 2 (.t 7)⟩,
  ⟨(some 43), none, .mov (.t 11)⟩,
  ⟨(some 44), none, .mov (.t 10)⟩,
  ⟨(some 45), none, .bin .add 3 (.c (.int .i64 1)) (.t 44)⟩,
  ⟨(some 12), none, .new [(.slice none 0 0), (.slice none 0 0)]⟩,
  ⟨(some 46), none, .call f_law2_sector [(.t 45)]⟩,
  ⟨(some 47), none, .build [(.int .i64 0), (.string ⟨#[]⟩)] [(0, (1, (.t 43))), (1, (1, (.t 46)))]⟩,
  ⟨(some 48), none, .build [(.bool false), (.int .i64 0), (.string ⟨#[]⟩)] [(1, (2, (.t 47)))]⟩,
  ⟨(some 49), none, .call f_disk_Do [(.t 42), (.t 48)]⟩,
  ⟨(some 41), none, .mov (.t 49)⟩,
  ⟨(some 50), none, .ext 0 (.t 41)⟩,
  ⟨(some 51), none, .ext 1 (.t 41)⟩,
  ⟨none, none, .st 2 (.t 12) (.t 50)⟩,
  ⟨(some 13), none, .mov (.t 51)⟩]
@[simp] def c_law2_DiskFlushed_r10 : List Ir := [⟨(some 52), none, .mov (.t 13)⟩,
  ⟨(some 53), none, .call f_law0_Num [(.t 52)]⟩,
  ⟨(some 54), none, .bin .neq 3 (.t 53) (.c (.int .i64 0))⟩]
@[simp] def c_law2_DiskFlushed_r11 : List Ir := [⟨(some 6), none, .mov (.c (.bool false))⟩]
@[simp] def c_law2_DiskFlushed_r12 : List Ir := [⟨(some 55), none, .ldn 2 (.t 12)⟩,
  ⟨none, none, .st 2 (.t 7) (.t 55)⟩]
@[simp] def c_law2_DiskFlushed_r13 : List Ir := [⟨(some 56), none, .mov (.t 11)⟩,
  ⟨(some 57), none, .mov (.t 10)⟩,
  ⟨(some 58), none, .bin .add 3 (.c (.int .i64 1)) (.t 57)⟩,
  ⟨(some 59), none, .iadrA 64 64 (.t 9) (.t 56)⟩,
  ⟨(some 60), none, .iadrA 64 1 (.t 59) (.t 58)⟩,
  ⟨none, none, .st 1 (.t 60) (.c (.bool true))⟩]
@[simp] def c_law2_DiskFlushed_r14 : List Ir := [⟨(some 61), none, .mov (.t 10)⟩,
  ⟨(some 62), none, .mov (.t 1)⟩,
  ⟨(some 63), none, .bin .and 3 (.t 62) (.c (.int .i64 63))⟩,
  ⟨(some 64), none, .bin .eql 3 (.t 61) (.t 63)⟩]
@[simp] def c_law2_DiskFlushed_r15 : List Ir := [⟨(some 66), none, .ldn 2 (.t 7)⟩,
  ⟨(some 67), none, .build [(.bool false), (.int .i64 0), (.string ⟨#[]⟩)] [(0, (1, (.c (.bool true))))]⟩,
  ⟨(some 68), none, .call f_disk_Do [(.t 66), (.t 67)]⟩,
  ⟨(some 65), none, .mov (.t 68)⟩,
  ⟨(some 69), none, .ext 0 (.t 65)⟩,
  ⟨(some 70), none, .ext 1 (.t 65)⟩,
  ⟨(some 14), none, .new [(.slice none 0 0), (.slice none 0 0)]⟩,
  ⟨none, none, .st 2 (.t 14) (.t 69)⟩,
  ⟨(some 15), none, .mov (.t 70)⟩]
@[simp] def c_law2_DiskFlushed_r16 : List Ir := [⟨(some 71), none, .mov (.t 15)⟩,
  ⟨(some 72), none, .call f_law0_Num [(.t 71)]⟩,
  ⟨(some 73), none, .bin .neq 3 (.t 72) (.c (.int .i64 0))⟩]
@[simp] def c_law2_DiskFlushed_r17 : List Ir := [⟨(some 6), none, .mov (.c (.bool false))⟩]
@[simp] def c_law2_DiskFlushed_r18 : List Ir := [⟨(some 74), none, .ldn 2 (.t 14)⟩,
  ⟨none, none, .st 2 (.t 7) (.t 74)⟩]
@[simp] def c_law2_DiskFlushed_r19 : List Ir := [⟨(some 16), none, .mov (.c (.int .i64 0))⟩]
@[simp] def c_law2_DiskFlushed_r20 : List Ir := [⟨(some 75), none, .mov (.t 16)⟩,
  ⟨(some 76), none, .bin .lss 3 (.t 75) (.c (.int .i64 64))⟩]
@[simp] def c_law2_DiskFlushed_r21 : List Ir := [⟨(some 80), none, .ldn 2 (.t 7)⟩,
  ⟨(some 81), none, .mov (.t 16)⟩,
  ⟨(some 82), none, .call f_disk_Read [(.t 80), (.t 81)]⟩,
  ⟨(some 79), none, .mov (.t 82)⟩,
  ⟨(some 83), none, .ext 0 (.t 79)⟩,
  ⟨(some 84), none, .ext 1 (.t 79)⟩,
  ⟨(some 17), none, .mov (.t 83)⟩,
  ⟨(some 18), none, .mov (.t 84)⟩]
@[simp] def c_law2_DiskFlushed_r22 : List Ir := [⟨(some 85), none, .mov (.t 18)⟩,
  ⟨(some 86), none, .call f_law0_Num [(.t 85)]⟩,
  ⟨(some 87), none, .bin .neq 3 (.t 86) (.c (.int .i64 0))⟩,
  ⟨(some 88), none, .mov (.t 87)⟩,
  ⟨(some 89), (some (88, false)), .mov (.t 17)⟩,
  ⟨(some 90), (some (88, false)), .lenS (.t 89)⟩,
  ⟨(some 91), (some (88, false)), .bin .neq 3 (.t 90) (.c (.int .i64 64))⟩,
  ⟨(some 92), none, .pick (.t 88) (.c (.bool true)) (.t 91)⟩]
@[simp] def c_law2_DiskFlushed_r23 : List Ir := [⟨(some 6), none, .mov (.c (.bool false))⟩]
@[simp] def c_law2_DiskFlushed_r24 : List Ir := [⟨(some 93), none, .mov (.t 16)⟩,
  ⟨(some 94), none, .mov (.t 17)⟩,
  ⟨(some 95), none, .idxS (.t 94) (.c (.int .i64 0))⟩,
  ⟨(some 96), none, .ii .i64 (.t 95)⟩,
  ⟨(some 97), none, .iadrA 64 1 (.t 8) (.t 93)⟩,
  ⟨none, none, .st 1 (.t 97) (.t 96)⟩]
@[simp] def c_law2_DiskFlushed_r25 : List Ir := [⟨(some 98), none, .mov (.t 16)⟩,
  ⟨(some 99), none, .build [(.bool false), (.bool false), (.bool false), (.bool false), (.bool false), (.bool false), (.bool false), (.bool false), (.bool false), (.bool false), (.bool false), (.bool false), (.bool false), (.bool false), (.bool false), (.bool false), (.bool false), (.bool false), (.bool false), (.bool false), (.bool false), (.bool false), (.bool false), (.bool false), (.bool false), (.bool false), (.bool false), (.bool false), (.bool false), (.bool false), (.bool false), (.bool false), (.bool false), (.bool false), (.bool false), (.bool false), (.bool false), (.bool false), (.bool false), (.bool false), (.bool false), (.bool false), (.bool false), (.bool false), (.bool false), (.bool false), (.bool false), (.bool false), (.bool false), (.bool false), (.bool false), (.bool false), (.bool false), (.bool false), (.bool false), (.bool false), (.bool false), (.bool false), (.bool false), (.bool false), (.bool false), (.bool false), (.bool false), (.bool false)] []⟩,
  ⟨(some 100), none, .iadrA 64 64 (.t 9) (.t 98)⟩,
  ⟨none, none, .st 64 (.t 100) (.t 99)⟩]
@[simp] def c_law2_DiskFlushed_r26 : List Ir := [⟨(some 77), none, .mov (.t 16)⟩,
  ⟨(some 78), none, .bin .add 3 (.t 77) (.c (.int .i64 1))⟩,
  ⟨(some 16), none, .mov (.t 78)⟩]
def c_law2_DiskFlushed_l27 : IC := (.seq (.seq (.reg c_law2_DiskFlushed_r20) (.cond (.t 76) .skip (.exit 2))) (.seq (.block 3 (.seq (.reg c_law2_DiskFlushed_r21) (.seq (.seq (.reg c_law2_DiskFlushed_r22) (.cond (.t 92) (.seq (.reg c_law2_DiskFlushed_r23) .ret) .skip)) (.seq (.reg c_law2_DiskFlushed_r24) (.reg c_law2_DiskFlushed_r25))))) (.reg c_law2_DiskFlushed_r26)))
@[simp] def c_law2_DiskFlushed_r28 : List Ir := [⟨(some 34), none, .mov (.t 10)⟩,
  ⟨(some 35), none, .bin .add 3 (.t 34) (.c (.int .i64 1))⟩,
  ⟨(some 10), none, .mov (.t 35)⟩]
def c_law2_DiskFlushed_l29 : IC := (.seq (.seq (.reg c_law2_DiskFlushed_r7) (.cond (.t 33) .skip (.exit 0))) (.seq (.block 1 (.seq (.reg c_law2_DiskFlushed_r8) (.seq (.regd c_law2_DiskFlushed_r9 [(0, 5)]) (.seq (.seq (.reg c_law2_DiskFlushed_r10) (.cond (.t 54) (.seq (.reg c_law2_DiskFlushed_r11) .ret) .skip)) (.seq (.reg c_law2_DiskFlushed_r12) (.seq (.reg c_law2_DiskFlushed_r13) (.seq (.reg c_law2_DiskFlushed_r14) (.cond (.t 64) (.seq (.reg c_law2_DiskFlushed_r15) (.seq (.seq (.reg c_law2_DiskFlushed_r16) (.cond (.t 73) (.seq (.reg c_law2_DiskFlushed_r17) .ret) .skip)) (.seq (.reg c_law2_DiskFlushed_r18) (.seq (.reg c_law2_DiskFlushed_r19) (.block 2 (.loop c_law2_DiskFlushed_l27)))))) .skip)))))))) (.reg c_law2_DiskFlushed_r28)))
@[simp] def c_law2_DiskFlushed_r30 : List Ir := [⟨(some 102), none, .ldn 2 (.t 7)⟩,
  ⟨(some 103), none, .mov (.t 2)⟩,
  ⟨(some 104), none, .call f_disk_Crash [(.t 102), (.t 103), (.c (.int .i64 (-1))), (.c (.int .i64 0))]⟩,
  ⟨(some 101), none, .mov (.t 104)⟩,
  ⟨(some 105), none, .ext 0 (.t 101)⟩,
  ⟨(some 106), none, .ext 1 (.t 101)⟩,
  ⟨(some 19), none, .new [(.slice none 0 0), (.slice none 0 0)]⟩,
  ⟨none, none, .st 2 (.t 19) (.t 105)⟩,
  ⟨(some 20), none, .mov (.t 106)⟩]
@[simp] def c_law2_DiskFlushed_r31 : List Ir := [⟨(some 107), none, .mov (.t 20)⟩,
  ⟨(some 108), none, .call f_law0_Num [(.t 107)]⟩,
  ⟨(some 109), none, .bin .neq 3 (.t 108) (.c (.int .i64 0))⟩,
  ⟨(some 110), none, .mov (.t 109)⟩,
  ⟨(some 111), (some (110, false)), .fadr 0 (.t 19)⟩,
  ⟨(some 112), (some (110, false)), .ld (.t 111)⟩,
  ⟨(some 113), (some (110, false)), .lenV (.t 112)⟩,
  ⟨(some 114), (some (110, false)), .bin .neq 3 (.t 113) (.c (.int .i64 394))⟩,
  ⟨(some 115), none, .pick (.t 110) (.c (.bool true)) (.t 114)⟩,
  ⟨(some 116), none, .mov (.t 115)⟩,
  ⟨(some 117), (some (116, false)), .fadr 1 (.t 19)⟩,
  ⟨(some 118), (some (116, false)), .ld (.t 117)⟩,
  ⟨(some 119), (some (116, false)), .lenV (.t 118)⟩,
  ⟨(some 120), (some (116, false)), .bin .neq 3 (.t 119) (.c (.int .i64 0))⟩,
  ⟨(some 121), none, .pick (.t 116) (.c (.bool true)) (.t 120)⟩]
@[simp] def c_law2_DiskFlushed_r32 : List Ir := [⟨(some 6), none, .mov (.c (.bool false))⟩]
@[simp] def c_law2_DiskFlushed_r33 : List Ir := [⟨(some 21), none, .mov (.c (.int .i64 0))⟩]
@[simp] def c_law2_DiskFlushed_r34 : List Ir := [⟨(some 122), none, .mov (.t 21)⟩,
  ⟨(some 123), none, .bin .lss 3 (.t 122) (.c (.int .i64 64))⟩]
@[simp] def c_law2_DiskFlushed_r35 : List Ir := [⟨(some 126), none, .fadr 0 (.t 19)⟩,
  ⟨(some 127), none, .ld (.t 126)⟩,
  ⟨(some 128), none, .mov (.t 21)⟩,
  ⟨(some 129), none, .iadrS 1 (.t 127) (.t 128)⟩,
  ⟨(some 130), none, .ld (.t 129)⟩,
  ⟨(some 22), none, .mov (.t 130)⟩]
@[simp] def c_law2_DiskFlushed_r36 : List Ir := [⟨(some 131), none, .mov (.t 22)⟩,
  ⟨(some 132), none, .lenS (.t 131)⟩,
  ⟨(some 133), none, .bin .neq 3 (.t 132) (.c (.int .i64 64))⟩,
  ⟨(some 134), none, .mov (.t 133)⟩,
  ⟨(some 135), (some (134, false)), .mov (.t 22)⟩,
  ⟨(some 136), (some (134, false)), .mov (.t 22)⟩,
  ⟨(some 137), (some (134, false)), .idxS (.t 136) (.c (.int .i64 0))⟩,
  ⟨(some 138), (some (134, false)), .ii .i64 (.t 137)⟩,
  ⟨(some 139), (some (134, false)), .call f_law2_sector [(.t 138)]⟩,
  ⟨(some 140), (some (134, false)), .bin .neq 9 (.t 135) (.t 139)⟩,
  ⟨(some 141), none, .pick (.t 134) (.c (.bool true)) (.t 140)⟩,
  ⟨(some 142), none, .mov (.t 141)⟩,
  ⟨(some 143), (some (142, false)), .mov (.t 22)⟩,
  ⟨(some 144), (some (142, false)), .idxS (.t 143) (.c (.int .i64 0))⟩,
  ⟨(some 145), (some (142, false)), .ii .i64 (.t 144)⟩,
  ⟨(some 146), (some (142, false)), .mov (.t 21)⟩,
  ⟨(some 147), (some (142, false)), .iadrA 64 1 (.t 8) (.t 146)⟩,
  ⟨(some 148), (some (142, false)), .ld (.t 147)⟩,
  ⟨(some 149), (some (142, false)), .bin .neq 3 (.t 145) (.t 148)⟩,
  ⟨(some 150), (some (142, false)), .mov (.t 149)⟩,
  ⟨(some 151), (some (150, true)), .mov (.t 21)⟩,
  ⟨(some 152), (some (150, true)), .mov (.t 22)⟩,
  ⟨(some 153), (some (150, true)), .idxS (.t 152) (.c (.int .i64 0))⟩,
  ⟨(some 154), (some (150, true)), .ii .i64 (.t 153)⟩,
  ⟨(some 155), (some (150, true)), .bin .and 3 (.t 154) (.c (.int .i64 63))⟩,
  ⟨(some 156), (some (150, true)), .iadrA 64 64 (.t 9) (.t 151)⟩,
  ⟨(some 157), (some (150, true)), .iadrA 64 1 (.t 156) (.t 155)⟩,
  ⟨(some 158), (some (150, true)), .ld (.t 157)⟩,
  ⟨(some 159), (some (150, true)), .un .not (.t 158)⟩,
  ⟨(some 160), (some (142, false)), .pick (.t 150) (.t 159) (.c (.bool false))⟩,
  ⟨(some 161), none, .pick (.t 142) (.c (.bool true)) (.t 160)⟩]
@[simp] def c_law2_DiskFlushed_r37 : List Ir := [⟨(some 6), none, .mov (.c (.bool false))⟩]
@[simp] def c_law2_DiskFlushed_r38 : List Ir := [⟨(some 124), none, .mov (.t 21)⟩,
  ⟨(some 125), none, .bin .add 3 (.t 124) (.c (.int .i64 1))⟩,
  ⟨(some 21), none, .mov (.t 125)⟩]
def c_law2_DiskFlushed_l39 : IC := (.seq (.seq (.reg c_law2_DiskFlushed_r34) (.cond (.t 123) .skip (.exit 4))) (.seq (.block 5 (.seq (.reg c_law2_DiskFlushed_r35) (.seq (.regd c_law2_DiskFlushed_r36 []) (.cond (.t 161) (.seq (.reg c_law2_DiskFlushed_r37) .ret) .skip)))) (.reg c_law2_DiskFlushed_r38)))
@[simp] def c_law2_DiskFlushed_r40 : List Ir := [⟨(some 6), none, .mov (.c (.bool true))⟩]
@[simp] def c_law2_DiskFlushed : IFn := ⟨(.seq (.reg c_law2_DiskFlushed_r0) (.seq (.seq (.reg c_law2_DiskFlushed_r1) (.cond (.t 24) (.seq (.reg c_law2_DiskFlushed_r2) .ret) .skip)) (.seq (.reg c_law2_DiskFlushed_r3) (.seq (.reg c_law2_DiskFlushed_r4) (.seq (.reg c_law2_DiskFlushed_r5) (.seq (.seq (.reg c_law2_DiskFlushed_r6) (.block 0 (.loop c_law2_DiskFlushed_l29))) (.seq (.reg c_law2_DiskFlushed_r30) (.seq (.seq (.reg c_law2_DiskFlushed_r31) (.cond (.t 121) (.seq (.reg c_law2_DiskFlushed_r32) .ret) .skip)) (.seq (.seq (.reg c_law2_DiskFlushed_r33) (.block 4 (.loop c_law2_DiskFlushed_l39))) (.seq (.reg c_law2_DiskFlushed_r40) .ret)))))))))), 162, [.tmp 6]⟩

theorem fc_law2_DiskFlushed : fnAt Try.prog f_law2_DiskFlushed = some c_law2_DiskFlushed := by kernel_rfl
@[simp] def c_law2_DiskForms_r0 : List Ir := [⟨(some 4), none, .mov (.c (.bool false))⟩]
@[simp] def c_law2_DiskForms_r1 : List Ir := [⟨(some 24), none, .call f_law2_awake []⟩,
  ⟨(some 25), none, .un .not (.t 24)⟩]
@[simp] def c_law2_DiskForms_r2 : List Ir := [⟨(some 4), none, .mov (.c (.bool false))⟩]
@[simp] def c_law2_DiskForms_r3 : List Ir := [⟨(some 26), none, .mov (.t 1)⟩,
  ⟨(some 27), none, .bin .and 3 (.t 26) (.c (.int .i64 1023))⟩,
  ⟨(some 28), none, .bin .add 3 (.c (.int .i64 1)) (.t 27)⟩,
  ⟨(some 5), none, .mov (.t 28)⟩]
@[simp] def c_law2_DiskForms_r4 : List Ir := [⟨(some 29), none, .call f_disk_New []⟩,
  ⟨(some 6), none, .new [(.slice none 0 0), (.slice none 0 0)]⟩,
  ⟨none, none, .st 2 (.t 6) (.t 29)⟩]
@[simp] def c_law2_DiskForms_r5 : List Ir := [⟨(some 30), none, .fadr 0 (.t 6)⟩,
  ⟨(some 31), none, .ld (.t 30)⟩,
  ⟨(some 32), none, .lenV (.t 31)⟩,
  ⟨(some 33), none, .bin .neq 3 (.t 32) (.c (.int .i64 394))⟩]
@[simp] def c_law2_DiskForms_r6 : List Ir := [⟨(some 4), none, .mov (.c (.bool false))⟩]
@[simp] def c_law2_DiskForms_r7 : List Ir := [⟨(some 34), none, .ldn 2 (.t 6)⟩,
  ⟨(some 35), none, .call f_law0_CopyDisk [(.t 34)]⟩,
  ⟨(some 7), none, .new [(.slice none 0 0), (.slice none 0 0)]⟩,
  ⟨none, none, .st 2 (.t 7) (.t 35)⟩]
@[simp] def c_law2_DiskForms_r8 : List Ir := [⟨(some 36), none, .call f_law2_sector [(.c (.int .i64 1))]⟩,
  ⟨(some 37), none, .build [(.int .i64 0), (.string ⟨#[]⟩)] [(0, (1, (.c (.int .i64 3)))), (1, (1, (.t 36)))]⟩,
  ⟨(some 38), none, .build [(.bool false), (.int .i64 0), (.string ⟨#[]⟩)] [(1, (2, (.t 37)))]⟩,
  ⟨(some 8), none, .new [(.bool false), (.int .i64 0), (.string ⟨#[]⟩)]⟩,
  ⟨none, none, .st 3 (.t 8) (.t 38)⟩]
@[simp] def c_law2_DiskForms_r9 : List Ir := [⟨(some 39), none, .mov (.t 0)⟩,
  ⟨(some 40), none, .ii .u64 (.t 39)⟩,
  ⟨(some 41), none, .bin .rem 55 (.t 40) (.c (.int .u64 7))⟩]
@[simp] def c_law2_DiskForms_r10 : List Ir := [⟨(some 58), none, .bin .eql 55 (.t 41) (.c (.int .u64 0))⟩,
  ⟨(some 57), none, .mov (.t 58)⟩]
@[simp] def c_law2_DiskForms_r11 : List Ir := [⟨(some 59), none, .fadr 0 (.t 7)⟩,
  ⟨(some 60), none, .ld (.t 59)⟩,
  ⟨(some 61), none, .slv 1 (.t 60) (some (.c (.int .i64 1))) none none⟩,
  ⟨(some 62), none, .fadr 0 (.t 7)⟩,
  ⟨none, none, .st 1 (.t 62) (.t 61)⟩]
@[simp] def c_law2_DiskForms_r12 : List Ir := [⟨(some 64), none, .bin .eql 55 (.t 41) (.c (.int .u64 1))⟩,
  ⟨(some 63), none, .mov (.t 64)⟩]
@[simp] def c_law2_DiskForms_r13 : List Ir := [⟨(some 65), none, .fadr 0 (.t 7)⟩,
  ⟨(some 66), none, .ld (.t 65)⟩,
  ⟨(some 67), none, .fadr 0 (.t 7)⟩,
  ⟨(some 68), none, .ld (.t 67)⟩,
  ⟨(some 69), none, .iadrS 1 (.t 68) (.c (.int .i64 5))⟩,
  ⟨(some 70), none, .ld (.t 69)⟩,
  ⟨(some 71), none, .sls (.t 70) (some (.c (.int .i64 1))) none⟩,
  ⟨(some 72), none, .iadrS 1 (.t 66) (.c (.int .i64 5))⟩,
  ⟨none, none, .st 1 (.t 72) (.t 71)⟩]
@[simp] def c_law2_DiskForms_r14 : List Ir := [⟨(some 74), none, .bin .eql 55 (.t 41) (.c (.int .u64 2))⟩,
  ⟨(some 73), none, .mov (.t 74)⟩]
@[simp] def c_law2_DiskForms_r15 : List Ir := [⟨(some 75), none, .mov (.t 5)⟩,
  ⟨(some 76), none, .un .neg (.t 75)⟩,
  ⟨(some 77), none, .call f_law2_sector [(.c (.int .i64 1))]⟩,
  ⟨(some 78), none, .build [(.int .i64 0), (.string ⟨#[]⟩)] [(0, (1, (.t 76))), (1, (1, (.t 77)))]⟩,
  ⟨(some 79), none, .mkrow 2 1 [(.int .i64 0), (.string ⟨#[]⟩)] [(0, (2, (.t 78)))]⟩,
  ⟨(some 80), none, .fadr 1 (.t 7)⟩,
  ⟨none, none, .st 1 (.t 80) (.t 79)⟩]
@[simp] def c_law2_DiskForms_r16 : List Ir := [⟨(some 82), none, .bin .eql 55 (.t 41) (.c (.int .u64 3))⟩,
  ⟨(some 81), none, .mov (.t 82)⟩]
@[simp] def c_law2_DiskForms_r17 : List Ir := [⟨(some 83), none, .mov (.t 5)⟩,
  ⟨(some 84), none, .bin .add 3 (.c (.int .i64 393)) (.t 83)⟩,
  ⟨(some 85), none, .call f_law2_sector [(.c (.int .i64 1))]⟩,
  ⟨(some 86), none, .build [(.int .i64 0), (.string ⟨#[]⟩)] [(0, (1, (.t 84))), (1, (1, (.t 85)))]⟩,
  ⟨(some 87), none, .mkrow 2 1 [(.int .i64 0), (.string ⟨#[]⟩)] [(0, (2, (.t 86)))]⟩,
  ⟨(some 88), none, .fadr 1 (.t 7)⟩,
  ⟨none, none, .st 1 (.t 88) (.t 87)⟩]
@[simp] def c_law2_DiskForms_r18 : List Ir := [⟨(some 90), none, .bin .eql 55 (.t 41) (.c (.int .u64 4))⟩,
  ⟨(some 89), none, .mov (.t 90)⟩]
@[simp] def c_law2_DiskForms_r19 : List Ir := [⟨(some 91), none, .build [(.int .i64 0), (.string ⟨#[]⟩)] [(0, (1, (.c (.int .i64 1)))), (1, (1, (.c (.string ⟨#[115, 104, 111, 114, 116]⟩))))]⟩,
  ⟨(some 92), none, .mkrow 2 1 [(.int .i64 0), (.string ⟨#[]⟩)] [(0, (2, (.t 91)))]⟩,
  ⟨(some 93), none, .fadr 1 (.t 7)⟩,
  ⟨none, none, .st 1 (.t 93) (.t 92)⟩]
@[simp] def c_law2_DiskForms_r20 : List Ir := [⟨(some 95), none, .bin .eql 55 (.t 41) (.c (.int .u64 5))⟩,
  ⟨(some 94), none, .mov (.t 95)⟩]
@[simp] def c_law2_DiskForms_r21 : List Ir := [⟨(some 96), none, .fadr 0 (.t 7)⟩,
  ⟨(some 97), none, .ld (.t 96)⟩,
  ⟨(some 98), none, .call f_law2_sector [(.c (.int .i64 0))]⟩,
  ⟨(some 99), none, .mkrow 1 1 [(.string ⟨#[]⟩)] [(0, (1, (.t 98)))]⟩,
  ⟨(some 100), none, .app 1 16 (.t 97) (.t 99)⟩,
  ⟨(some 101), none, .fadr 0 (.t 7)⟩,
  ⟨none, none, .st 1 (.t 101) (.t 100)⟩]
@[simp] def c_law2_DiskForms_r22 : List Ir := [⟨(some 42), none, .mks 2 24 [(.int .i64 0), (.string ⟨#[]⟩)] (.c (.int .i64 513)) (.c (.int .i64 513))⟩,
  ⟨(some 43), none, .fadr 1 (.t 7)⟩,
  ⟨none, none, .st 1 (.t 43) (.t 42)⟩]
@[simp] def c_law2_DiskForms_r23 : List Ir := [⟨(some 9), none, .mov (.c (.int .i64 0))⟩]
@[simp] def c_law2_DiskForms_r24 : List Ir := [⟨(some 44), none, .mov (.t 9)⟩,
  ⟨(some 45), none, .fadr 1 (.t 7)⟩,
  ⟨(some 46), none, .ld (.t 45)⟩,
  ⟨(some 47), none, .lenV (.t 46)⟩,
  ⟨(some 48), none, .bin .lss 3 (.t 44) (.t 47)⟩]
@[simp] def c_law2_DiskForms_r25 : List Ir := [⟨(some 51), none, .fadr 1 (.t 7)⟩,
  ⟨(some 52), none, .ld (.t 51)⟩,
  ⟨(some 53), none, .mov (.t 9)⟩,
  ⟨(some 54), none, .fadr 1 (.t 8)⟩,
  ⟨(some 55), none, .ldn 2 (.t 54)⟩,
  ⟨(some 56), none, .iadrS 2 (.t 52) (.t 53)⟩,
  ⟨none, none, .st 2 (.t 56) (.t 55)⟩]
@[simp] def c_law2_DiskForms_r26 : List Ir := [⟨(some 49), none, .mov (.t 9)⟩,
  ⟨(some 50), none, .bin .add 3 (.t 49) (.c (.int .i64 1))⟩,
  ⟨(some 9), none, .mov (.t 50)⟩]
def c_law2_DiskForms_l27 : IC := (.seq (.seq (.reg c_law2_DiskForms_r24) (.cond (.t 48) .skip (.exit 1))) (.seq (.block 2 (.reg c_law2_DiskForms_r25)) (.reg c_law2_DiskForms_r26)))
@[simp] def c_law2_DiskForms_r28 : List Ir := [⟨(some 103), none, .ldn 2 (.t 7)⟩,
  ⟨(some 104), none, .call f_disk_Read [(.t 103), (.c (.int .i64 0))]⟩,
  ⟨(some 102), none, .mov (.t 104)⟩,
  ⟨(some 105), none, .ext 0 (.t 102)⟩,
  ⟨(some 106), none, .ext 1 (.t 102)⟩,
  ⟨(some 10), none, .mov (.t 105)⟩,
  ⟨(some 11), none, .mov (.t 106)⟩]
@[simp] def c_law2_DiskForms_r29 : List Ir := [⟨(some 108), none, .ldn 2 (.t 7)⟩,
  ⟨(some 109), none, .ldn 3 (.t 8)⟩,
  ⟨(some 110), none, .call f_disk_Do [(.t 108), (.t 109)]⟩,
  ⟨(some 107), none, .mov (.t 110)⟩,
  ⟨(some 111), none, .ext 0 (.t 107)⟩,
  ⟨(some 112), none, .ext 1 (.t 107)⟩,
  ⟨(some 12), none, .new [(.slice none 0 0), (.slice none 0 0)]⟩,
  ⟨none, none, .st 2 (.t 12) (.t 111)⟩,
  ⟨(some 13), none, .mov (.t 112)⟩]
@[simp] def c_law2_DiskForms_r30 : List Ir := [⟨(some 114), none, .ldn 2 (.t 7)⟩,
  ⟨(some 115), none, .call f_disk_Crash [(.t 114), (.c (.string ⟨#[]⟩)), (.c (.int .i64 (-1))), (.c (.int .i64 0))]⟩,
  ⟨(some 113), none, .mov (.t 115)⟩,
  ⟨(some 116), none, .ext 0 (.t 113)⟩,
  ⟨(some 117), none, .ext 1 (.t 113)⟩,
  ⟨(some 14), none, .new [(.slice none 0 0), (.slice none 0 0)]⟩,
  ⟨none, none, .st 2 (.t 14) (.t 116)⟩,
  ⟨(some 15), none, .mov (.t 117)⟩]
@[simp] def c_law2_DiskForms_r31 : List Ir := [⟨(some 119), none, .ldn 2 (.t 6)⟩,
  ⟨(some 120), none, .mov (.t 5)⟩,
  ⟨(some 121), none, .un .neg (.t 120)⟩,
  ⟨(some 16), none, .new [(.slice none 0 0), (.slice none 0 0)]⟩,
  ⟨(some 122), none, .call f_law2_sector [(.c (.int .i64 1))]⟩,
  ⟨(some 123), none, .build [(.int .i64 0), (.string ⟨#[]⟩)] [(0, (1, (.t 121))), (1, (1, (.t 122)))]⟩,
  ⟨(some 124), none, .build [(.bool false), (.int .i64 0), (.string ⟨#[]⟩)] [(1, (2, (.t 123)))]⟩,
  ⟨(some 125), none, .call f_disk_Do [(.t 119), (.t 124)]⟩,
  ⟨(some 118), none, .mov (.t 125)⟩,
  ⟨(some 126), none, .ext 0 (.t 118)⟩,
  ⟨(some 127), none, .ext 1 (.t 118)⟩,
  ⟨none, none, .st 2 (.t 16) (.t 126)⟩,
  ⟨(some 17), none, .mov (.t 127)⟩]
@[simp] def c_law2_DiskForms_r32 : List Ir := [⟨(some 129), none, .ldn 2 (.t 6)⟩,
  ⟨(some 130), none, .build [(.int .i64 0), (.string ⟨#[]⟩)] [(0, (1, (.c (.int .i64 1))))]⟩,
  ⟨(some 131), none, .build [(.bool false), (.int .i64 0), (.string ⟨#[]⟩)] [(0, (1, (.c (.bool true)))), (1, (2, (.t 130)))]⟩,
  ⟨(some 132), none, .call f_disk_Do [(.t 129), (.t 131)]⟩,
  ⟨(some 128), none, .mov (.t 132)⟩,
  ⟨(some 133), none, .ext 0 (.t 128)⟩,
  ⟨(some 134), none, .ext 1 (.t 128)⟩,
  ⟨(some 18), none, .new [(.slice none 0 0), (.slice none 0 0)]⟩,
  ⟨none, none, .st 2 (.t 18) (.t 133)⟩,
  ⟨(some 19), none, .mov (.t 134)⟩]
@[simp] def c_law2_DiskForms_r33 : List Ir := [⟨(some 136), none, .ldn 2 (.t 6)⟩,
  ⟨(some 137), none, .mov (.t 5)⟩,
  ⟨(some 138), none, .bin .add 3 (.c (.int .i64 64)) (.t 137)⟩,
  ⟨(some 139), none, .call f_disk_Crash [(.t 136), (.c (.string ⟨#[]⟩)), (.c (.int .i64 (-1))), (.t 138)]⟩,
  ⟨(some 135), none, .mov (.t 139)⟩,
  ⟨(some 140), none, .ext 0 (.t 135)⟩,
  ⟨(some 141), none, .ext 1 (.t 135)⟩,
  ⟨(some 20), none, .new [(.slice none 0 0), (.slice none 0 0)]⟩,
  ⟨none, none, .st 2 (.t 20) (.t 140)⟩,
  ⟨(some 21), none, .mov (.t 141)⟩]
@[simp] def c_law2_DiskForms_r34 : List Ir := [⟨(some 143), none, .ldn 2 (.t 6)⟩,
  ⟨(some 144), none, .mov (.t 5)⟩,
  ⟨(some 145), none, .un .neg (.t 144)⟩,
  ⟨(some 146), none, .call f_disk_Read [(.t 143), (.t 145)]⟩,
  ⟨(some 142), none, .mov (.t 146)⟩,
  ⟨(some 147), none, .ext 0 (.t 142)⟩,
  ⟨(some 148), none, .ext 1 (.t 142)⟩,
  ⟨(some 22), none, .mov (.t 147)⟩,
  ⟨(some 23), none, .mov (.t 148)⟩]
@[simp] def c_law2_DiskForms_r35 : List Ir := [⟨(some 149), none, .ldn 2 (.t 7)⟩,
  ⟨(some 150), none, .call f_disk_May [(.t 149)]⟩,
  ⟨(some 151), none, .un .not (.t 150)⟩,
  ⟨(some 152), none, .mov (.t 151)⟩,
  ⟨(some 153), (some (152, true)), .ldn 2 (.t 6)⟩,
  ⟨(some 154), (some (152, true)), .call f_disk_May [(.t 153)]⟩,
  ⟨(some 155), none, .pick (.t 152) (.t 154) (.c (.bool false))⟩,
  ⟨(some 156), none, .mov (.t 155)⟩,
  ⟨(some 157), (some (156, true)), .mov (.t 11)⟩,
  ⟨(some 158), (some (156, true)), .call f_law0_Num [(.t 157)]⟩,
  ⟨(some 159), (some (156, true)), .bin .eql 3 (.t 158) (.c (.int .i64 200))⟩,
  ⟨(some 160), none, .pick (.t 156) (.t 159) (.c (.bool false))⟩,
  ⟨(some 161), none, .mov (.t 160)⟩,
  ⟨(some 162), (some (161, true)), .mov (.t 13)⟩,
  ⟨(some 163), (some (161, true)), .call f_law0_Num [(.t 162)]⟩,
  ⟨(some 164), (some (161, true)), .bin .eql 3 (.t 163) (.c (.int .i64 200))⟩,
  ⟨(some 165), none, .pick (.t 161) (.t 164) (.c (.bool false))⟩,
  ⟨(some 166), none, .mov (.t 165)⟩,
  ⟨(some 167), (some (166, true)), .mov (.t 15)⟩,
  ⟨(some 168), (some (166, true)), .call f_law0_Num [(.t 167)]⟩,
  ⟨(some 169), (some (166, true)), .bin .eql 3 (.t 168) (.c (.int .i64 200))⟩,
  ⟨(some 170), none, .pick (.t 166) (.t 169) (.c (.bool false))⟩,
  ⟨(some 171), none, .mov (.t 170)⟩,
  ⟨(some 172), (some (171, true)), .mov (.t 17)⟩,
  ⟨(some 173), (some (171, true)), .call f_law0_Num [(.t 172)]⟩,
  ⟨(some 174), (some (171, true)), .bin .eql 3 (.t 173) (.c (.int .i64 200))⟩,
  ⟨(some 175), none, .pick (.t 171) (.t 174) (.c (.bool false))⟩,
  ⟨(some 176), none, .mov (.t 175)⟩,
  ⟨(some 177), (some (176, true)), .mov (.t 19)⟩,
  ⟨(some 178), (some (176, true)), .call f_law0_Num [(.t 177)]⟩,
  ⟨(some 179), (some (176, true)), .bin .eql 3 (.t 178) (.c (.int .i64 200))⟩,
  ⟨(some 180), none, .pick (.t 176) (.t 179) (.c (.bool false))⟩,
  ⟨(some 181), none, .mov (.t 180)⟩,
  ⟨(some 182), (some (181, true)), .mov (.t 21)⟩,
  ⟨(some 183), (some (181, true)), .call f_law0_Num [(.t 182)]⟩,
  ⟨(some 184), (some (181, true)), .bin .eql 3 (.t 183) (.c (.int .i64 200))⟩,
  ⟨(some 185), none, .pick (.t 181) (.t 184) (.c (.bool false))⟩,
  ⟨(some 186), none, .mov (.t 185)⟩,
  ⟨(some 187), (some (186, true)), .mov (.t 23)⟩,
  ⟨(some 188), (some (186, true)), .call f_law0_Num [(.t 187)]⟩,
  ⟨(some 189), (some (186, true)), .bin .eql 3 (.t 188) (.c (.int .i64 200))⟩,
  ⟨(some 190), none, .pick (.t 186) (.t 189) (.c (.bool false))⟩,
  ⟨(some 4), none, .mov (.t 190)⟩]
@[simp] def c_law2_DiskForms : IFn := ⟨(.seq (.reg c_law2_DiskForms_r0) (.seq (.seq (.reg c_law2_DiskForms_r1) (.cond (.t 25) (.seq (.reg c_law2_DiskForms_r2) .ret) .skip)) (.seq (.reg c_law2_DiskForms_r3) (.seq (.reg c_law2_DiskForms_r4) (.seq (.seq (.reg c_law2_DiskForms_r5) (.cond (.t 33) (.seq (.reg c_law2_DiskForms_r6) .ret) .skip)) (.seq (.reg c_law2_DiskForms_r7) (.seq (.reg c_law2_DiskForms_r8) (.seq (.seq (.reg c_law2_DiskForms_r9) (.block 0 (.seq (.reg c_law2_DiskForms_r10) (.cond (.t 57) (.reg c_law2_DiskForms_r11) (.seq (.reg c_law2_DiskForms_r12) (.cond (.t 63) (.regd c_law2_DiskForms_r13 []) (.seq (.reg c_law2_DiskForms_r14) (.cond (.t 73) (.reg c_law2_DiskForms_r15) (.seq (.reg c_law2_DiskForms_r16) (.cond (.t 81) (.reg c_law2_DiskForms_r17) (.seq (.reg c_law2_DiskForms_r18) (.cond (.t 89) (.reg c_law2_DiskForms_r19) (.seq (.reg c_law2_DiskForms_r20) (.cond (.t 94) (.regd c_law2_DiskForms_r21 [(1, 2)]) (.seq (.reg c_law2_DiskForms_r22) (.seq (.reg c_law2_DiskForms_r23) (.block 1 (.loop c_law2_DiskForms_l27)))))))))))))))))) (.seq (.reg c_law2_DiskForms_r28) (.seq (.reg c_law2_DiskForms_r29) (.seq (.reg c_law2_DiskForms_r30) (.seq (.regd c_law2_DiskForms_r31 [(0, 4)]) (.seq (.reg c_law2_DiskForms_r32) (.seq (.reg c_law2_DiskForms_r33) (.seq (.reg c_law2_DiskForms_r34) (.seq (.reg c_law2_DiskForms_r35) .ret)))))))))))))))), 191, [.tmp 4]⟩

theorem fc_law2_DiskForms : fnAt Try.prog f_law2_DiskForms = some c_law2_DiskForms := by kernel_rfl
@[simp] def c_law2_DiskLast_r0 : List Ir := [⟨(some 4), none, .mov (.c (.bool false))⟩]
@[simp] def c_law2_DiskLast_r1 : List Ir := [⟨(some 16), none, .call f_law2_awake []⟩,
  ⟨(some 17), none, .un .not (.t 16)⟩]
@[simp] def c_law2_DiskLast_r2 : List Ir := [⟨(some 4), none, .mov (.c (.bool false))⟩]
@[simp] def c_law2_DiskLast_r3 : List Ir := [⟨(some 18), none, .call f_disk_New []⟩,
  ⟨(some 5), none, .new [(.slice none 0 0), (.slice none 0 0)]⟩,
  ⟨none, none, .st 2 (.t 5) (.t 18)⟩]
@[simp] def c_law2_DiskLast_r4 : List Ir := [⟨(some 6), none, .new [(.int .i64 0), (.int .i64 0), (.int .i64 0), (.int .i64 0), (.int .i64 0), (.int .i64 0), (.int .i64 0), (.int .i64 0), (.int .i64 0), (.int .i64 0), (.int .i64 0), (.int .i64 0), (.int .i64 0), (.int .i64 0), (.int .i64 0), (.int .i64 0), (.int .i64 0), (.int .i64 0), (.int .i64 0), (.int .i64 0), (.int .i64 0), (.int .i64 0), (.int .i64 0), (.int .i64 0), (.int .i64 0), (.int .i64 0), (.int .i64 0), (.int .i64 0), (.int .i64 0), (.int .i64 0), (.int .i64 0), (.int .i64 0), (.int .i64 0), (.int .i64 0), (.int .i64 0), (.int .i64 0), (.int .i64 0), (.int .i64 0), (.int .i64 0), (.int .i64 0), (.int .i64 0), (.int .i64 0), (.int .i64 0), (.int .i64 0), (.int .i64 0), (.int .i64 0), (.int .i64 0), (.int .i64 0), (.int .i64 0), (.int .i64 0), (.int .i64 0), (.int .i64 0), (.int .i64 0), (.int .i64 0), (.int .i64 0), (.int .i64 0), (.int .i64 0), (.int .i64 0), (.int .i64 0), (.int .i64 0), (.int .i64 0), (.int .i64 0), (.int .i64 0), (.int .i64 0)]⟩]
@[simp] def c_law2_DiskLast_r5 : List Ir := [⟨(some 7), none, .mov (.c (.int .i64 0))⟩]
@[simp] def c_law2_DiskLast_r6 : List Ir := [⟨(some 19), none, .mov (.t 7)⟩,
  ⟨(some 20), none, .mov (.t 0)⟩,
  ⟨(some 21), none, .lenV (.t 20)⟩,
  ⟨(some 22), none, .bin .lss 3 (.t 19) (.t 21)⟩,
  ⟨(some 23), none, .mov (.t 22)⟩,
  ⟨(some 24), (some (23, true)), .mov (.t 7)⟩,
  ⟨(some 25), (some (23, true)), .bin .lss 3 (.t 24) (.c (.int .i64 40))⟩,
  ⟨(some 26), none, .pick (.t 23) (.t 25) (.c (.bool false))⟩]
@[simp] def c_law2_DiskLast_r7 : List Ir := [⟨(some 29), none, .mov (.t 0)⟩,
  ⟨(some 30), none, .mov (.t 7)⟩,
  ⟨(some 31), none, .iadrS 1 (.t 29) (.t 30)⟩,
  ⟨(some 32), none, .ld (.t 31)⟩,
  ⟨(some 33), none, .bin .and 3 (.t 32) (.c (.int .i64 63))⟩,
  ⟨(some 8), none, .mov (.t 33)⟩]
@[simp] def c_law2_DiskLast_r8 : List Ir := [⟨(some 35), none, .ldn 2 (.t 5)⟩,
  ⟨(some 36), none, .mov (.t 8)⟩,
  ⟨(some 37), none, .mov (.t 7)⟩,
  ⟨(some 38), none, .bin .add 3 (.c (.int .i64 1)) (.t 37)⟩,
  ⟨(some 9), none, .new [(.slice none 0 0), (.slice none 0 0)]⟩,
  ⟨(some 39), none, .call f_law2_sector [(.t 38)]⟩,
  ⟨(some 40), none, .build [(.int .i64 0), (.string ⟨#[]⟩)] [(0, (1, (.t 36))), (1, (1, (.t 39)))]⟩,
  ⟨(some 41), none, .build [(.bool false), (.int .i64 0), (.string ⟨#[]⟩)] [(1, (2, (.t 40)))]⟩,
  ⟨(some 42), none, .call f_disk_Do [(.t 35), (.t 41)]⟩,
  ⟨(some 34), none, .mov (.t 42)⟩,
  ⟨(some 43), none, .ext 0 (.t 34)⟩,
  ⟨(some 44), none, .ext 1 (.t 34)⟩,
  ⟨none, none, .st 2 (.t 9) (.t 43)⟩,
  ⟨(some 10), none, .mov (.t 44)⟩]
@[simp] def c_law2_DiskLast_r9 : List Ir := [⟨(some 45), none, .mov (.t 10)⟩,
  ⟨(some 46), none, .call f_law0_Num [(.t 45)]⟩,
  ⟨(some 47), none, .bin .neq 3 (.t 46) (.c (.int .i64 0))⟩]
@[simp] def c_law2_DiskLast_r10 : List Ir := [⟨(some 4), none, .mov (.c (.bool false))⟩]
@[simp] def c_law2_DiskLast_r11 : List Ir := [⟨(some 48), none, .ldn 2 (.t 9)⟩,
  ⟨none, none, .st 2 (.t 5) (.t 48)⟩]
@[simp] def c_law2_DiskLast_r12 : List Ir := [⟨(some 49), none, .mov (.t 8)⟩,
  ⟨(some 50), none, .mov (.t 7)⟩,
  ⟨(some 51), none, .bin .add 3 (.c (.int .i64 1)) (.t 50)⟩,
  ⟨(some 52), none, .iadrA 64 1 (.t 6) (.t 49)⟩,
  ⟨none, none, .st 1 (.t 52) (.t 51)⟩]
@[simp] def c_law2_DiskLast_r13 : List Ir := [⟨(some 53), none, .mov (.t 1)⟩,
  ⟨(some 54), none, .mov (.t 7)⟩,
  ⟨(some 55), none, .bin .and 3 (.t 54) (.c (.int .i64 15))⟩,
  ⟨(some 56), none, .bin .shr 3 (.t 53) (.t 55)⟩,
  ⟨(some 57), none, .bin .and 3 (.t 56) (.c (.int .i64 1))⟩,
  ⟨(some 58), none, .bin .eql 3 (.t 57) (.c (.int .i64 1))⟩]
@[simp] def c_law2_DiskLast_r14 : List Ir := [⟨(some 60), none, .ldn 2 (.t 5)⟩,
  ⟨(some 61), none, .build [(.bool false), (.int .i64 0), (.string ⟨#[]⟩)] [(0, (1, (.c (.bool true))))]⟩,
  ⟨(some 62), none, .call f_disk_Do [(.t 60), (.t 61)]⟩,
  ⟨(some 59), none, .mov (.t 62)⟩,
  ⟨(some 63), none, .ext 0 (.t 59)⟩,
  ⟨(some 64), none, .ext 1 (.t 59)⟩,
  ⟨(some 11), none, .new [(.slice none 0 0), (.slice none 0 0)]⟩,
  ⟨none, none, .st 2 (.t 11) (.t 63)⟩,
  ⟨(some 12), none, .mov (.t 64)⟩]
@[simp] def c_law2_DiskLast_r15 : List Ir := [⟨(some 65), none, .mov (.t 12)⟩,
  ⟨(some 66), none, .call f_law0_Num [(.t 65)]⟩,
  ⟨(some 67), none, .bin .neq 3 (.t 66) (.c (.int .i64 0))⟩,
  ⟨(some 68), none, .mov (.t 67)⟩,
  ⟨(some 69), (some (68, false)), .fadr 1 (.t 11)⟩,
  ⟨(some 70), (some (68, false)), .ld (.t 69)⟩,
  ⟨(some 71), (some (68, false)), .lenV (.t 70)⟩,
  ⟨(some 72), (some (68, false)), .bin .neq 3 (.t 71) (.c (.int .i64 0))⟩,
  ⟨(some 73), none, .pick (.t 68) (.c (.bool true)) (.t 72)⟩]
@[simp] def c_law2_DiskLast_r16 : List Ir := [⟨(some 4), none, .mov (.c (.bool false))⟩]
@[simp] def c_law2_DiskLast_r17 : List Ir := [⟨(some 74), none, .ldn 2 (.t 11)⟩,
  ⟨none, none, .st 2 (.t 5) (.t 74)⟩]
@[simp] def c_law2_DiskLast_r18 : List Ir := [⟨(some 13), none, .mov (.c (.int .i64 0))⟩]
@[simp] def c_law2_DiskLast_r19 : List Ir := [⟨(some 75), none, .mov (.t 13)⟩,
  ⟨(some 76), none, .bin .lss 3 (.t 75) (.c (.int .i64 64))⟩]
@[simp] def c_law2_DiskLast_r20 : List Ir := [⟨(some 80), none, .ldn 2 (.t 5)⟩,
  ⟨(some 81), none, .mov (.t 13)⟩,
  ⟨(some 82), none, .call f_disk_Read [(.t 80), (.t 81)]⟩,
  ⟨(some 79), none, .mov (.t 82)⟩,
  ⟨(some 83), none, .ext 0 (.t 79)⟩,
  ⟨(some 84), none, .ext 1 (.t 79)⟩,
  ⟨(some 14), none, .mov (.t 83)⟩,
  ⟨(some 15), none, .mov (.t 84)⟩]
@[simp] def c_law2_DiskLast_r21 : List Ir := [⟨(some 85), none, .mov (.t 15)⟩,
  ⟨(some 86), none, .call f_law0_Num [(.t 85)]⟩,
  ⟨(some 87), none, .bin .neq 3 (.t 86) (.c (.int .i64 0))⟩,
  ⟨(some 88), none, .mov (.t 87)⟩,
  ⟨(some 89), (some (88, false)), .mov (.t 14)⟩,
  ⟨(some 90), (some (88, false)), .mov (.t 13)⟩,
  ⟨(some 91), (some (88, false)), .iadrA 64 1 (.t 6) (.t 90)⟩,
  ⟨(some 92), (some (88, false)), .ld (.t 91)⟩,
  ⟨(some 93), (some (88, false)), .call f_law2_sector [(.t 92)]⟩,
  ⟨(some 94), (some (88, false)), .bin .neq 9 (.t 89) (.t 93)⟩,
  ⟨(some 95), none, .pick (.t 88) (.c (.bool true)) (.t 94)⟩]
@[simp] def c_law2_DiskLast_r22 : List Ir := [⟨(some 4), none, .mov (.c (.bool false))⟩]
@[simp] def c_law2_DiskLast_r23 : List Ir := [⟨(some 77), none, .mov (.t 13)⟩,
  ⟨(some 78), none, .bin .add 3 (.t 77) (.c (.int .i64 1))⟩,
  ⟨(some 13), none, .mov (.t 78)⟩]
def c_law2_DiskLast_l24 : IC := (.seq (.seq (.reg c_law2_DiskLast_r19) (.cond (.t 76) .skip (.exit 2))) (.seq (.block 3 (.seq (.reg c_law2_DiskLast_r20) (.seq (.reg c_law2_DiskLast_r21) (.cond (.t 95) (.seq (.reg c_law2_DiskLast_r22) .ret) .skip)))) (.reg c_law2_DiskLast_r23)))
@[simp] def c_law2_DiskLast_r25 : List Ir := [⟨(some 27), none, .mov (.t 7)⟩,
  ⟨(some 28), none, .bin .add 3 (.t 27) (.c (.int .i64 1))⟩,
  ⟨(some 7), none, .mov (.t 28)⟩]
def c_law2_DiskLast_l26 : IC := (.seq (.seq (.reg c_law2_DiskLast_r6) (.cond (.t 26) .skip (.exit 0))) (.seq (.block 1 (.seq (.reg c_law2_DiskLast_r7) (.seq (.regd c_law2_DiskLast_r8 [(0, 5)]) (.seq (.seq (.reg c_law2_DiskLast_r9) (.cond (.t 47) (.seq (.reg c_law2_DiskLast_r10) .ret) .skip)) (.seq (.reg c_law2_DiskLast_r11) (.seq (.reg c_law2_DiskLast_r12) (.seq (.seq (.reg c_law2_DiskLast_r13) (.cond (.t 58) (.seq (.reg c_law2_DiskLast_r14) (.seq (.seq (.reg c_law2_DiskLast_r15) (.cond (.t 73) (.seq (.reg c_law2_DiskLast_r16) .ret) .skip)) (.reg c_law2_DiskLast_r17))) .skip)) (.seq (.reg c_law2_DiskLast_r18) (.block 2 (.loop c_law2_DiskLast_l24)))))))))) (.reg c_law2_DiskLast_r25)))
@[simp] def c_law2_DiskLast_r27 : List Ir := [⟨(some 4), none, .mov (.c (.bool true))⟩]
@[simp] def c_law2_DiskLast : IFn := ⟨(.seq (.reg c_law2_DiskLast_r0) (.seq (.seq (.reg c_law2_DiskLast_r1) (.cond (.t 17) (.seq (.reg c_law2_DiskLast_r2) .ret) .skip)) (.seq (.reg c_law2_DiskLast_r3) (.seq (.reg c_law2_DiskLast_r4) (.seq (.seq (.reg c_law2_DiskLast_r5) (.block 0 (.loop c_law2_DiskLast_l26))) (.seq (.reg c_law2_DiskLast_r27) .ret)))))), 96, [.tmp 4]⟩

theorem fc_law2_DiskLast : fnAt Try.prog f_law2_DiskLast = some c_law2_DiskLast := by kernel_rfl
@[simp] def c_law2_DiskTorn_r0 : List Ir := [⟨(some 6), none, .mov (.c (.bool false))⟩]
@[simp] def c_law2_DiskTorn_r1 : List Ir := [⟨(some 17), none, .call f_law2_awake []⟩,
  ⟨(some 18), none, .un .not (.t 17)⟩]
@[simp] def c_law2_DiskTorn_r2 : List Ir := [⟨(some 6), none, .mov (.c (.bool false))⟩]
@[simp] def c_law2_DiskTorn_r3 : List Ir := [⟨(some 19), none, .mov (.t 0)⟩,
  ⟨(some 20), none, .ii .u64 (.t 19)⟩,
  ⟨(some 21), none, .bin .rem 55 (.t 20) (.c (.int .u64 65))⟩,
  ⟨(some 22), none, .ii .i64 (.t 21)⟩,
  ⟨(some 7), none, .mov (.t 22)⟩]
@[simp] def c_law2_DiskTorn_r4 : List Ir := [⟨(some 23), none, .mov (.t 1)⟩,
  ⟨(some 24), none, .bin .and 3 (.t 23) (.c (.int .i64 255))⟩,
  ⟨(some 8), none, .mov (.t 24)⟩]
@[simp] def c_law2_DiskTorn_r5 : List Ir := [⟨(some 26), none, .call f_disk_New []⟩,
  ⟨(some 27), none, .mov (.t 8)⟩,
  ⟨(some 28), none, .call f_law2_sector [(.c (.int .i64 7))]⟩,
  ⟨(some 29), none, .build [(.int .i64 0), (.string ⟨#[]⟩)] [(0, (1, (.t 27))), (1, (1, (.t 28)))]⟩,
  ⟨(some 30), none, .build [(.bool false), (.int .i64 0), (.string ⟨#[]⟩)] [(1, (2, (.t 29)))]⟩,
  ⟨(some 31), none, .call f_disk_Do [(.t 26), (.t 30)]⟩,
  ⟨(some 25), none, .mov (.t 31)⟩,
  ⟨(some 32), none, .ext 0 (.t 25)⟩,
  ⟨(some 33), none, .ext 1 (.t 25)⟩,
  ⟨(some 9), none, .new [(.slice none 0 0), (.slice none 0 0)]⟩,
  ⟨none, none, .st 2 (.t 9) (.t 32)⟩,
  ⟨(some 10), none, .mov (.t 33)⟩]
@[simp] def c_law2_DiskTorn_r6 : List Ir := [⟨(some 35), none, .ldn 2 (.t 9)⟩,
  ⟨(some 36), none, .mov (.t 8)⟩,
  ⟨(some 11), none, .new [(.slice none 0 0), (.slice none 0 0)]⟩,
  ⟨(some 37), none, .call f_law2_sector [(.c (.int .i64 9))]⟩,
  ⟨(some 38), none, .build [(.int .i64 0), (.string ⟨#[]⟩)] [(0, (1, (.t 36))), (1, (1, (.t 37)))]⟩,
  ⟨(some 39), none, .build [(.bool false), (.int .i64 0), (.string ⟨#[]⟩)] [(1, (2, (.t 38)))]⟩,
  ⟨(some 40), none, .call f_disk_Do [(.t 35), (.t 39)]⟩,
  ⟨(some 34), none, .mov (.t 40)⟩,
  ⟨(some 41), none, .ext 0 (.t 34)⟩,
  ⟨(some 42), none, .ext 1 (.t 34)⟩,
  ⟨none, none, .st 2 (.t 11) (.t 41)⟩,
  ⟨(some 12), none, .mov (.t 42)⟩]
@[simp] def c_law2_DiskTorn_r7 : List Ir := [⟨(some 13), none, .mov (.c (.string ⟨#[0]⟩))⟩]
@[simp] def c_law2_DiskTorn_r8 : List Ir := [⟨(some 14), none, .mov (.c (.int .i64 0))⟩]
@[simp] def c_law2_DiskTorn_r9 : List Ir := [⟨(some 43), none, .mov (.t 2)⟩]
@[simp] def c_law2_DiskTorn_r10 : List Ir := [⟨(some 13), none, .mov (.c (.string ⟨#[1]⟩))⟩]
@[simp] def c_law2_DiskTorn_r11 : List Ir := [⟨(some 14), none, .mov (.c (.int .i64 7))⟩]
@[simp] def c_law2_DiskTorn_r12 : List Ir := [⟨(some 45), none, .ldn 2 (.t 11)⟩,
  ⟨(some 46), none, .mov (.t 13)⟩,
  ⟨(some 47), none, .mov (.t 7)⟩,
  ⟨(some 48), none, .call f_disk_Crash [(.t 45), (.t 46), (.c (.int .i64 1)), (.t 47)]⟩,
  ⟨(some 44), none, .mov (.t 48)⟩,
  ⟨(some 49), none, .ext 0 (.t 44)⟩,
  ⟨(some 50), none, .ext 1 (.t 44)⟩,
  ⟨(some 15), none, .new [(.slice none 0 0), (.slice none 0 0)]⟩,
  ⟨none, none, .st 2 (.t 15) (.t 49)⟩,
  ⟨(some 16), none, .mov (.t 50)⟩]
@[simp] def c_law2_DiskTorn_r13 : List Ir := [⟨(some 51), none, .mov (.t 10)⟩,
  ⟨(some 52), none, .call f_law0_Num [(.t 51)]⟩,
  ⟨(some 53), none, .bin .neq 3 (.t 52) (.c (.int .i64 0))⟩,
  ⟨(some 54), none, .mov (.t 53)⟩,
  ⟨(some 55), (some (54, false)), .mov (.t 12)⟩,
  ⟨(some 56), (some (54, false)), .call f_law0_Num [(.t 55)]⟩,
  ⟨(some 57), (some (54, false)), .bin .neq 3 (.t 56) (.c (.int .i64 0))⟩,
  ⟨(some 58), none, .pick (.t 54) (.c (.bool true)) (.t 57)⟩,
  ⟨(some 59), none, .mov (.t 58)⟩,
  ⟨(some 60), (some (59, false)), .mov (.t 16)⟩,
  ⟨(some 61), (some (59, false)), .call f_law0_Num [(.t 60)]⟩,
  ⟨(some 62), (some (59, false)), .bin .neq 3 (.t 61) (.c (.int .i64 0))⟩,
  ⟨(some 63), none, .pick (.t 59) (.c (.bool true)) (.t 62)⟩,
  ⟨(some 64), none, .mov (.t 63)⟩,
  ⟨(some 65), (some (64, false)), .fadr 0 (.t 15)⟩,
  ⟨(some 66), (some (64, false)), .ld (.t 65)⟩,
  ⟨(some 67), (some (64, false)), .lenV (.t 66)⟩,
  ⟨(some 68), (some (64, false)), .bin .neq 3 (.t 67) (.c (.int .i64 394))⟩,
  ⟨(some 69), none, .pick (.t 64) (.c (.bool true)) (.t 68)⟩]
@[simp] def c_law2_DiskTorn_r14 : List Ir := [⟨(some 6), none, .mov (.c (.bool false))⟩]
@[simp] def c_law2_DiskTorn_r15 : List Ir := [⟨(some 70), none, .fadr 0 (.t 15)⟩,
  ⟨(some 71), none, .ld (.t 70)⟩,
  ⟨(some 72), none, .mov (.t 8)⟩,
  ⟨(some 73), none, .iadrS 1 (.t 71) (.t 72)⟩,
  ⟨(some 74), none, .ld (.t 73)⟩,
  ⟨(some 76), none, .mov (.t 7)⟩,
  ⟨(some 78), none, .mov (.t 14)⟩,
  ⟨(some 80), none, .mov (.t 7)⟩,
  ⟨(some 75), none, .call f_law2_sector [(.c (.int .i64 9))]⟩,
  ⟨(some 77), none, .sls (.t 75) none (some (.t 76))⟩,
  ⟨(some 79), none, .call f_law2_sector [(.t 78)]⟩,
  ⟨(some 81), none, .sls (.t 79) (some (.t 80)) none⟩,
  ⟨(some 82), none, .bin .add 9 (.t 77) (.t 81)⟩,
  ⟨(some 83), none, .bin .eql 9 (.t 74) (.t 82)⟩,
  ⟨(some 84), none, .mov (.t 83)⟩,
  ⟨(some 85), (some (84, true)), .fadr 1 (.t 15)⟩,
  ⟨(some 86), (some (84, true)), .ld (.t 85)⟩,
  ⟨(some 87), (some (84, true)), .lenV (.t 86)⟩,
  ⟨(some 88), (some (84, true)), .bin .eql 3 (.t 87) (.c (.int .i64 0))⟩,
  ⟨(some 89), none, .pick (.t 84) (.t 88) (.c (.bool false))⟩,
  ⟨(some 6), none, .mov (.t 89)⟩]
@[simp] def c_law2_DiskTorn : IFn := ⟨(.seq (.reg c_law2_DiskTorn_r0) (.seq (.seq (.reg c_law2_DiskTorn_r1) (.cond (.t 18) (.seq (.reg c_law2_DiskTorn_r2) .ret) .skip)) (.seq (.reg c_law2_DiskTorn_r3) (.seq (.reg c_law2_DiskTorn_r4) (.seq (.reg c_law2_DiskTorn_r5) (.seq (.regd c_law2_DiskTorn_r6 [(0, 3)]) (.seq (.reg c_law2_DiskTorn_r7) (.seq (.reg c_law2_DiskTorn_r8) (.seq (.seq (.reg c_law2_DiskTorn_r9) (.cond (.t 43) (.seq (.reg c_law2_DiskTorn_r10) (.reg c_law2_DiskTorn_r11)) .skip)) (.seq (.reg c_law2_DiskTorn_r12) (.seq (.seq (.reg c_law2_DiskTorn_r13) (.cond (.t 69) (.seq (.reg c_law2_DiskTorn_r14) .ret) .skip)) (.seq (.regd c_law2_DiskTorn_r15 [(1, 8), (4, 8), (1, 10), (4, 10)]) .ret)))))))))))), 90, [.tmp 6]⟩

theorem fc_law2_DiskTorn : fnAt Try.prog f_law2_DiskTorn = some c_law2_DiskTorn := by kernel_rfl
@[simp] def c_law2_DiskSubset_r0 : List Ir := [⟨(some 4), none, .mov (.c (.bool false))⟩]
@[simp] def c_law2_DiskSubset_r1 : List Ir := [⟨(some 17), none, .call f_law2_awake []⟩,
  ⟨(some 18), none, .un .not (.t 17)⟩]
@[simp] def c_law2_DiskSubset_r2 : List Ir := [⟨(some 4), none, .mov (.c (.bool false))⟩]
@[simp] def c_law2_DiskSubset_r3 : List Ir := [⟨(some 19), none, .call f_disk_New []⟩,
  ⟨(some 20), none, .call f_disk_New []⟩,
  ⟨(some 5), none, .new [(.slice none 0 0), (.slice none 0 0)]⟩,
  ⟨(some 6), none, .new [(.slice none 0 0), (.slice none 0 0)]⟩,
  ⟨none, none, .st 2 (.t 5) (.t 19)⟩,
  ⟨none, none, .st 2 (.t 6) (.t 20)⟩]
@[simp] def c_law2_DiskSubset_r4 : List Ir := [⟨(some 7), none, .mov (.c (.int .i64 0))⟩]
@[simp] def c_law2_DiskSubset_r5 : List Ir := [⟨(some 21), none, .mov (.t 7)⟩,
  ⟨(some 22), none, .mov (.t 0)⟩,
  ⟨(some 23), none, .lenV (.t 22)⟩,
  ⟨(some 24), none, .bin .lss 3 (.t 21) (.t 23)⟩,
  ⟨(some 25), none, .mov (.t 24)⟩,
  ⟨(some 26), (some (25, true)), .mov (.t 7)⟩,
  ⟨(some 27), (some (25, true)), .bin .lss 3 (.t 26) (.c (.int .i64 40))⟩,
  ⟨(some 28), none, .pick (.t 25) (.t 27) (.c (.bool false))⟩]
@[simp] def c_law2_DiskSubset_r6 : List Ir := [⟨(some 31), none, .mov (.t 0)⟩,
  ⟨(some 32), none, .mov (.t 7)⟩,
  ⟨(some 33), none, .iadrS 1 (.t 31) (.t 32)⟩,
  ⟨(some 34), none, .ld (.t 33)⟩,
  ⟨(some 35), none, .bin .and 3 (.t 34) (.c (.int .i64 63))⟩,
  ⟨(some 36), none, .mov (.t 7)⟩,
  ⟨(some 37), none, .bin .add 3 (.c (.int .i64 1)) (.t 36)⟩,
  ⟨(some 8), none, .new [(.bool false), (.int .i64 0), (.string ⟨#[]⟩)]⟩,
  ⟨(some 38), none, .call f_law2_sector [(.t 37)]⟩,
  ⟨(some 39), none, .build [(.int .i64 0), (.string ⟨#[]⟩)] [(0, (1, (.t 35))), (1, (1, (.t 38)))]⟩,
  ⟨(some 40), none, .build [(.bool false), (.int .i64 0), (.string ⟨#[]⟩)] [(1, (2, (.t 39)))]⟩,
  ⟨none, none, .st 3 (.t 8) (.t 40)⟩]
@[simp] def c_law2_DiskSubset_r7 : List Ir := [⟨(some 42), none, .ldn 2 (.t 5)⟩,
  ⟨(some 43), none, .ldn 3 (.t 8)⟩,
  ⟨(some 44), none, .call f_disk_Do [(.t 42), (.t 43)]⟩,
  ⟨(some 41), none, .mov (.t 44)⟩,
  ⟨(some 45), none, .ext 0 (.t 41)⟩,
  ⟨(some 46), none, .ext 1 (.t 41)⟩,
  ⟨(some 9), none, .new [(.slice none 0 0), (.slice none 0 0)]⟩,
  ⟨none, none, .st 2 (.t 9) (.t 45)⟩,
  ⟨(some 10), none, .mov (.t 46)⟩]
@[simp] def c_law2_DiskSubset_r8 : List Ir := [⟨(some 47), none, .mov (.t 10)⟩,
  ⟨(some 48), none, .call f_law0_Num [(.t 47)]⟩,
  ⟨(some 49), none, .bin .neq 3 (.t 48) (.c (.int .i64 0))⟩]
@[simp] def c_law2_DiskSubset_r9 : List Ir := [⟨(some 4), none, .mov (.c (.bool false))⟩]
@[simp] def c_law2_DiskSubset_r10 : List Ir := [⟨(some 50), none, .ldn 2 (.t 9)⟩,
  ⟨none, none, .st 2 (.t 5) (.t 50)⟩]
@[simp] def c_law2_DiskSubset_r11 : List Ir := [⟨(some 51), none, .mov (.t 7)⟩,
  ⟨(some 52), none, .mov (.t 1)⟩,
  ⟨(some 53), none, .lenS (.t 52)⟩,
  ⟨(some 54), none, .bin .lss 3 (.t 51) (.t 53)⟩,
  ⟨(some 55), none, .mov (.t 54)⟩,
  ⟨(some 56), (some (55, true)), .mov (.t 1)⟩,
  ⟨(some 57), (some (55, true)), .mov (.t 7)⟩,
  ⟨(some 58), (some (55, true)), .idxS (.t 56) (.t 57)⟩,
  ⟨(some 59), (some (55, true)), .bin .and 5 (.t 58) (.c (.int .u8 1))⟩,
  ⟨(some 60), (some (55, true)), .bin .eql 5 (.t 59) (.c (.int .u8 1))⟩,
  ⟨(some 61), none, .pick (.t 55) (.t 60) (.c (.bool false))⟩]
@[simp] def c_law2_DiskSubset_r12 : List Ir := [⟨(some 63), none, .ldn 2 (.t 6)⟩,
  ⟨(some 64), none, .ldn 3 (.t 8)⟩,
  ⟨(some 65), none, .call f_disk_Do [(.t 63), (.t 64)]⟩,
  ⟨(some 62), none, .mov (.t 65)⟩,
  ⟨(some 66), none, .ext 0 (.t 62)⟩,
  ⟨(some 67), none, .ext 1 (.t 62)⟩,
  ⟨(some 11), none, .new [(.slice none 0 0), (.slice none 0 0)]⟩,
  ⟨none, none, .st 2 (.t 11) (.t 66)⟩,
  ⟨(some 12), none, .mov (.t 67)⟩]
@[simp] def c_law2_DiskSubset_r13 : List Ir := [⟨(some 68), none, .mov (.t 12)⟩,
  ⟨(some 69), none, .call f_law0_Num [(.t 68)]⟩,
  ⟨(some 70), none, .bin .neq 3 (.t 69) (.c (.int .i64 0))⟩]
@[simp] def c_law2_DiskSubset_r14 : List Ir := [⟨(some 4), none, .mov (.c (.bool false))⟩]
@[simp] def c_law2_DiskSubset_r15 : List Ir := [⟨(some 71), none, .ldn 2 (.t 11)⟩,
  ⟨none, none, .st 2 (.t 6) (.t 71)⟩]
@[simp] def c_law2_DiskSubset_r16 : List Ir := [⟨(some 29), none, .mov (.t 7)⟩,
  ⟨(some 30), none, .bin .add 3 (.t 29) (.c (.int .i64 1))⟩,
  ⟨(some 7), none, .mov (.t 30)⟩]
def c_law2_DiskSubset_l17 : IC := (.seq (.seq (.reg c_law2_DiskSubset_r5) (.cond (.t 28) .skip (.exit 0))) (.seq (.block 1 (.seq (.regd c_law2_DiskSubset_r6 [(3, 8)]) (.seq (.reg c_law2_DiskSubset_r7) (.seq (.seq (.reg c_law2_DiskSubset_r8) (.cond (.t 49) (.seq (.reg c_law2_DiskSubset_r9) .ret) .skip)) (.seq (.reg c_law2_DiskSubset_r10) (.seq (.reg c_law2_DiskSubset_r11) (.cond (.t 61) (.seq (.reg c_law2_DiskSubset_r12) (.seq (.seq (.reg c_law2_DiskSubset_r13) (.cond (.t 70) (.seq (.reg c_law2_DiskSubset_r14) .ret) .skip)) (.reg c_law2_DiskSubset_r15))) .skip))))))) (.reg c_law2_DiskSubset_r16)))
@[simp] def c_law2_DiskSubset_r18 : List Ir := [⟨(some 73), none, .ldn 2 (.t 5)⟩,
  ⟨(some 74), none, .mov (.t 1)⟩,
  ⟨(some 75), none, .call f_disk_Crash [(.t 73), (.t 74), (.c (.int .i64 (-1))), (.c (.int .i64 0))]⟩,
  ⟨(some 72), none, .mov (.t 75)⟩,
  ⟨(some 76), none, .ext 0 (.t 72)⟩,
  ⟨(some 77), none, .ext 1 (.t 72)⟩,
  ⟨(some 13), none, .new [(.slice none 0 0), (.slice none 0 0)]⟩,
  ⟨none, none, .st 2 (.t 13) (.t 76)⟩,
  ⟨(some 14), none, .mov (.t 77)⟩]
@[simp] def c_law2_DiskSubset_r19 : List Ir := [⟨(some 79), none, .ldn 2 (.t 6)⟩,
  ⟨(some 80), none, .build [(.bool false), (.int .i64 0), (.string ⟨#[]⟩)] [(0, (1, (.c (.bool true))))]⟩,
  ⟨(some 81), none, .call f_disk_Do [(.t 79), (.t 80)]⟩,
  ⟨(some 78), none, .mov (.t 81)⟩,
  ⟨(some 82), none, .ext 0 (.t 78)⟩,
  ⟨(some 83), none, .ext 1 (.t 78)⟩,
  ⟨(some 15), none, .new [(.slice none 0 0), (.slice none 0 0)]⟩,
  ⟨none, none, .st 2 (.t 15) (.t 82)⟩,
  ⟨(some 16), none, .mov (.t 83)⟩]
@[simp] def c_law2_DiskSubset_r20 : List Ir := [⟨(some 84), none, .mov (.t 14)⟩,
  ⟨(some 85), none, .call f_law0_Num [(.t 84)]⟩,
  ⟨(some 86), none, .bin .eql 3 (.t 85) (.c (.int .i64 0))⟩,
  ⟨(some 87), none, .mov (.t 86)⟩,
  ⟨(some 88), (some (87, true)), .mov (.t 16)⟩,
  ⟨(some 89), (some (87, true)), .call f_law0_Num [(.t 88)]⟩,
  ⟨(some 90), (some (87, true)), .bin .eql 3 (.t 89) (.c (.int .i64 0))⟩,
  ⟨(some 91), none, .pick (.t 87) (.t 90) (.c (.bool false))⟩,
  ⟨(some 92), none, .mov (.t 91)⟩,
  ⟨(some 93), (some (92, true)), .ldn 2 (.t 13)⟩,
  ⟨(some 94), (some (92, true)), .ldn 2 (.t 15)⟩,
  ⟨(some 95), (some (92, true)), .call f_law0_SameDisk [(.t 93), (.t 94)]⟩,
  ⟨(some 96), none, .pick (.t 92) (.t 95) (.c (.bool false))⟩,
  ⟨(some 4), none, .mov (.t 96)⟩]
@[simp] def c_law2_DiskSubset : IFn := ⟨(.seq (.reg c_law2_DiskSubset_r0) (.seq (.seq (.reg c_law2_DiskSubset_r1) (.cond (.t 18) (.seq (.reg c_law2_DiskSubset_r2) .ret) .skip)) (.seq (.reg c_law2_DiskSubset_r3) (.seq (.seq (.reg c_law2_DiskSubset_r4) (.block 0 (.loop c_law2_DiskSubset_l17))) (.seq (.reg c_law2_DiskSubset_r18) (.seq (.reg c_law2_DiskSubset_r19) (.seq (.reg c_law2_DiskSubset_r20) .ret))))))), 97, [.tmp 4]⟩

theorem fc_law2_DiskSubset : fnAt Try.prog f_law2_DiskSubset = some c_law2_DiskSubset := by kernel_rfl
@[simp] def c_law8_Plans_r0 : List Ir := [⟨(some 2), none, .box 5 (.t 0)⟩,
  ⟨(some 4), none, .mov (.c (.bool false))⟩]
@[simp] def c_law8_Plans_r1 : List Ir := [⟨(some 19), none, .ldn 5 (.t 2)⟩,
  ⟨(some 20), none, .call f_law0_CopyPager [(.t 19)]⟩,
  ⟨(some 21), none, .mov (.t 1)⟩,
  ⟨(some 22), none, .call f_law0_LendImages [(.t 21)]⟩,
  ⟨(some 5), none, .new [(.int .i64 0), (.int .i64 0), (.int .i64 0), (.int .i64 0), (.slice none 0 0)]⟩,
  ⟨none, none, .st 5 (.t 5) (.t 20)⟩,
  ⟨(some 6), none, .mov (.t 22)⟩]
@[simp] def c_law8_Plans_r2 : List Ir := [⟨(some 24), none, .ldn 5 (.t 5)⟩,
  ⟨(some 25), none, .call f_plan_Fresh [(.t 24)]⟩,
  ⟨(some 23), none, .mov (.t 25)⟩,
  ⟨(some 26), none, .ext 0 (.t 23)⟩,
  ⟨(some 27), none, .ext 1 (.t 23)⟩,
  ⟨(some 28), none, .ext 2 (.t 23)⟩,
  ⟨(some 8), none, .new [(.int .i64 0), (.int .i64 0), (.int .i64 0), (.int .i64 0), (.slice none 0 0)]⟩,
  ⟨(some 7), none, .mov (.t 26)⟩,
  ⟨none, none, .st 5 (.t 8) (.t 27)⟩,
  ⟨(some 9), none, .mov (.t 28)⟩]
@[simp] def c_law8_Plans_r3 : List Ir := [⟨(some 30), none, .ldn 5 (.t 2)⟩,
  ⟨(some 31), none, .call f_ref1_Fresh [(.t 30)]⟩,
  ⟨(some 29), none, .mov (.t 31)⟩,
  ⟨(some 32), none, .ext 0 (.t 29)⟩,
  ⟨(some 33), none, .ext 1 (.t 29)⟩,
  ⟨(some 34), none, .ext 2 (.t 29)⟩,
  ⟨(some 11), none, .new [(.int .i64 0), (.int .i64 0), (.int .i64 0), (.int .i64 0), (.slice none 0 0)]⟩,
  ⟨(some 10), none, .mov (.t 32)⟩,
  ⟨none, none, .st 5 (.t 11) (.t 33)⟩,
  ⟨(some 12), none, .mov (.t 34)⟩]
@[simp] def c_law8_Plans_r4 : List Ir := [⟨(some 36), none, .ldn 5 (.t 5)⟩,
  ⟨(some 37), none, .mov (.t 6)⟩,
  ⟨(some 38), none, .call f_plan_Commit [(.t 36), (.t 37)]⟩,
  ⟨(some 35), none, .mov (.t 38)⟩,
  ⟨(some 39), none, .ext 0 (.t 35)⟩,
  ⟨(some 40), none, .ext 1 (.t 35)⟩,
  ⟨(some 41), none, .ext 2 (.t 35)⟩,
  ⟨(some 14), none, .new [(.int .i64 0), (.int .i64 0), (.int .i64 0), (.int .i64 0), (.slice none 0 0)]⟩,
  ⟨(some 13), none, .mov (.t 39)⟩,
  ⟨none, none, .st 5 (.t 14) (.t 40)⟩,
  ⟨(some 15), none, .mov (.t 41)⟩]
@[simp] def c_law8_Plans_r5 : List Ir := [⟨(some 43), none, .ldn 5 (.t 2)⟩,
  ⟨(some 44), none, .mov (.t 1)⟩,
  ⟨(some 45), none, .call f_ref1_Commit [(.t 43), (.t 44)]⟩,
  ⟨(some 42), none, .mov (.t 45)⟩,
  ⟨(some 46), none, .ext 0 (.t 42)⟩,
  ⟨(some 47), none, .ext 1 (.t 42)⟩,
  ⟨(some 48), none, .ext 2 (.t 42)⟩,
  ⟨(some 17), none, .new [(.int .i64 0), (.int .i64 0), (.int .i64 0), (.int .i64 0), (.slice none 0 0)]⟩,
  ⟨(some 16), none, .mov (.t 46)⟩,
  ⟨none, none, .st 5 (.t 17) (.t 47)⟩,
  ⟨(some 18), none, .mov (.t 48)⟩]
@[simp] def c_law8_Plans_r6 : List Ir := [⟨(some 49), none, .mov (.t 7)⟩,
  ⟨(some 50), none, .mov (.t 10)⟩,
  ⟨(some 51), none, .call f_law0_SameSteps [(.t 49), (.t 50)]⟩,
  ⟨(some 52), none, .un .not (.t 51)⟩,
  ⟨(some 53), none, .mov (.t 52)⟩,
  ⟨(some 54), (some (53, false)), .ldn 5 (.t 8)⟩,
  ⟨(some 55), (some (53, false)), .ldn 5 (.t 11)⟩,
  ⟨(some 56), (some (53, false)), .call f_law0_SamePager [(.t 54), (.t 55)]⟩,
  ⟨(some 57), (some (53, false)), .un .not (.t 56)⟩,
  ⟨(some 58), none, .pick (.t 53) (.c (.bool true)) (.t 57)⟩,
  ⟨(some 59), none, .mov (.t 58)⟩,
  ⟨(some 60), (some (59, false)), .mov (.t 9)⟩,
  ⟨(some 62), (some (59, false)), .mov (.t 12)⟩,
  ⟨(some 61), (some (59, false)), .call f_law0_Num [(.t 60)]⟩,
  ⟨(some 63), (some (59, false)), .bin .neq 3 (.t 61) (.t 62)⟩,
  ⟨(some 64), none, .pick (.t 59) (.c (.bool true)) (.t 63)⟩,
  ⟨(some 65), none, .mov (.t 64)⟩,
  ⟨(some 66), (some (65, false)), .mov (.t 13)⟩,
  ⟨(some 67), (some (65, false)), .mov (.t 16)⟩,
  ⟨(some 68), (some (65, false)), .call f_law0_SameSteps [(.t 66), (.t 67)]⟩,
  ⟨(some 69), (some (65, false)), .un .not (.t 68)⟩,
  ⟨(some 70), none, .pick (.t 65) (.c (.bool true)) (.t 69)⟩,
  ⟨(some 71), none, .mov (.t 70)⟩,
  ⟨(some 72), (some (71, false)), .ldn 5 (.t 14)⟩,
  ⟨(some 73), (some (71, false)), .ldn 5 (.t 17)⟩,
  ⟨(some 74), (some (71, false)), .call f_law0_SamePager [(.t 72), (.t 73)]⟩,
  ⟨(some 75), (some (71, false)), .un .not (.t 74)⟩,
  ⟨(some 76), none, .pick (.t 71) (.c (.bool true)) (.t 75)⟩,
  ⟨(some 77), none, .mov (.t 76)⟩,
  ⟨(some 78), (some (77, false)), .mov (.t 15)⟩,
  ⟨(some 80), (some (77, false)), .mov (.t 18)⟩,
  ⟨(some 79), (some (77, false)), .call f_law0_Num [(.t 78)]⟩,
  ⟨(some 81), (some (77, false)), .bin .neq 3 (.t 79) (.t 80)⟩,
  ⟨(some 82), none, .pick (.t 77) (.c (.bool true)) (.t 81)⟩,
  ⟨(some 83), none, .mov (.t 82)⟩,
  ⟨(some 84), (some (83, false)), .ldn 5 (.t 5)⟩,
  ⟨(some 86), (some (83, false)), .ldn 5 (.t 2)⟩,
  ⟨(some 85), (some (83, false)), .call f_plan_May [(.t 84)]⟩,
  ⟨(some 87), (some (83, false)), .call f_ref1_PagerMay [(.t 86)]⟩,
  ⟨(some 88), (some (83, false)), .bin .neq 4 (.t 85) (.t 87)⟩,
  ⟨(some 89), none, .pick (.t 83) (.c (.bool true)) (.t 88)⟩,
  ⟨(some 90), none, .mov (.t 89)⟩,
  ⟨(some 91), (some (90, false)), .call f_plan_Format []⟩,
  ⟨(some 92), (some (90, false)), .call f_ref1_Format []⟩,
  ⟨(some 93), (some (90, false)), .call f_law0_SameSteps [(.t 91), (.t 92)]⟩,
  ⟨(some 94), (some (90, false)), .un .not (.t 93)⟩,
  ⟨(some 95), none, .pick (.t 90) (.c (.bool true)) (.t 94)⟩]
@[simp] def c_law8_Plans_r7 : List Ir := [⟨(some 4), none, .mov (.c (.bool false))⟩]
@[simp] def c_law8_Plans_r8 : List Ir := [⟨(some 96), none, .mov (.t 7)⟩,
  ⟨(some 97), none, .call f_law0_SpoilSteps [(.t 96)]⟩]
@[simp] def c_law8_Plans_r9 : List Ir := [⟨(some 98), none, .ldn 5 (.t 8)⟩,
  ⟨(some 99), none, .call f_law0_SpoilPager [(.t 98)]⟩]
@[simp] def c_law8_Plans_r10 : List Ir := [⟨(some 100), none, .mov (.t 13)⟩,
  ⟨(some 101), none, .call f_law0_SpoilSteps [(.t 100)]⟩]
@[simp] def c_law8_Plans_r11 : List Ir := [⟨(some 102), none, .ldn 5 (.t 14)⟩,
  ⟨(some 103), none, .call f_law0_SpoilPager [(.t 102)]⟩]
@[simp] def c_law8_Plans_r12 : List Ir := [⟨(some 104), none, .ldn 5 (.t 5)⟩,
  ⟨(some 105), none, .ldn 5 (.t 2)⟩,
  ⟨(some 106), none, .call f_law0_SamePager [(.t 104), (.t 105)]⟩,
  ⟨(some 107), none, .mov (.t 106)⟩,
  ⟨(some 108), (some (107, true)), .mov (.t 6)⟩,
  ⟨(some 109), (some (107, true)), .mov (.t 1)⟩,
  ⟨(some 110), (some (107, true)), .call f_law0_KeptImages [(.t 108), (.t 109)]⟩,
  ⟨(some 111), none, .pick (.t 107) (.t 110) (.c (.bool false))⟩,
  ⟨(some 112), none, .mov (.t 111)⟩,
  ⟨(some 113), (some (112, true)), .call f_law8_awake []⟩,
  ⟨(some 114), none, .pick (.t 112) (.t 113) (.c (.bool false))⟩,
  ⟨(some 4), none, .mov (.t 114)⟩]
@[simp] def c_law8_Plans : IFn := ⟨(.seq (.reg c_law8_Plans_r0) (.seq (.reg c_law8_Plans_r1) (.seq (.reg c_law8_Plans_r2) (.seq (.reg c_law8_Plans_r3) (.seq (.reg c_law8_Plans_r4) (.seq (.reg c_law8_Plans_r5) (.seq (.seq (.regd c_law8_Plans_r6 [(36, 37)]) (.cond (.t 95) (.seq (.reg c_law8_Plans_r7) .ret) .skip)) (.seq (.reg c_law8_Plans_r8) (.seq (.reg c_law8_Plans_r9) (.seq (.reg c_law8_Plans_r10) (.seq (.reg c_law8_Plans_r11) (.seq (.reg c_law8_Plans_r12) .ret)))))))))))), 115, [.tmp 4]⟩

theorem fc_law8_Plans : fnAt Try.prog f_law8_Plans = some c_law8_Plans := by kernel_rfl
@[simp] def c_law8_PlanCrash_r0 : List Ir := [⟨(some 14), none, .mov (.c (.bool false))⟩]
@[simp] def c_law8_PlanCrash_r1 : List Ir := [⟨(some 35), none, .call f_law8_awake []⟩,
  ⟨(some 36), none, .un .not (.t 35)⟩]
@[simp] def c_law8_PlanCrash_r2 : List Ir := [⟨(some 14), none, .mov (.c (.bool false))⟩]
@[simp] def c_law8_PlanCrash_r3 : List Ir := [⟨(some 37), none, .mov (.t 0)⟩,
  ⟨(some 38), none, .call f_ref1_ImagesMay [(.t 37)]⟩,
  ⟨(some 39), none, .un .not (.t 38)⟩,
  ⟨(some 40), none, .mov (.t 39)⟩,
  ⟨(some 41), (some (40, false)), .mov (.t 1)⟩,
  ⟨(some 42), (some (40, false)), .call f_ref1_ImagesMay [(.t 41)]⟩,
  ⟨(some 43), (some (40, false)), .un .not (.t 42)⟩,
  ⟨(some 44), none, .pick (.t 40) (.c (.bool true)) (.t 43)⟩]
@[simp] def c_law8_PlanCrash_r4 : List Ir := [⟨(some 14), none, .mov (.c (.bool true))⟩]
@[simp] def c_law8_PlanCrash_r5 : List Ir := [⟨(some 46), none, .call f_ref1_NewDisk []⟩,
  ⟨(some 47), none, .call f_plan_Format []⟩,
  ⟨(some 48), none, .call f_law8_done [(.t 46), (.t 47)]⟩,
  ⟨(some 45), none, .mov (.t 48)⟩,
  ⟨(some 49), none, .ext 0 (.t 45)⟩,
  ⟨(some 50), none, .ext 1 (.t 45)⟩,
  ⟨(some 15), none, .new [(.slice none 0 0), (.slice none 0 0)]⟩,
  ⟨none, none, .st 2 (.t 15) (.t 49)⟩,
  ⟨(some 16), none, .mov (.t 50)⟩]
@[simp] def c_law8_PlanCrash_r6 : List Ir := [⟨(some 52), none, .ldn 2 (.t 15)⟩,
  ⟨(some 53), none, .call f_ref1_Open [(.t 52)]⟩,
  ⟨(some 51), none, .mov (.t 53)⟩,
  ⟨(some 54), none, .ext 0 (.t 51)⟩,
  ⟨(some 55), none, .ext 1 (.t 51)⟩,
  ⟨(some 17), none, .new [(.int .i64 0), (.int .i64 0), (.int .i64 0), (.int .i64 0), (.slice none 0 0)]⟩,
  ⟨none, none, .st 5 (.t 17) (.t 54)⟩,
  ⟨(some 18), none, .mov (.t 55)⟩]
@[simp] def c_law8_PlanCrash_r7 : List Ir := [⟨(some 19), none, .mov (.c (.int .i64 0))⟩]
@[simp] def c_law8_PlanCrash_r8 : List Ir := [⟨(some 56), none, .mov (.t 19)⟩,
  ⟨(some 57), none, .mov (.t 2)⟩,
  ⟨(some 58), none, .bin .and 3 (.t 57) (.c (.int .i64 7))⟩,
  ⟨(some 59), none, .bin .lss 3 (.t 56) (.t 58)⟩,
  ⟨(some 60), none, .mov (.t 59)⟩,
  ⟨(some 61), (some (60, true)), .mov (.t 16)⟩,
  ⟨(some 62), none, .pick (.t 60) (.t 61) (.c (.bool false))⟩,
  ⟨(some 63), none, .mov (.t 62)⟩,
  ⟨(some 64), (some (63, true)), .mov (.t 18)⟩,
  ⟨(some 65), (some (63, true)), .bin .eql 3 (.t 64) (.c (.int .i64 0))⟩,
  ⟨(some 66), none, .pick (.t 63) (.t 65) (.c (.bool false))⟩]
@[simp] def c_law8_PlanCrash_r9 : List Ir := [⟨(some 70), none, .ldn 5 (.t 17)⟩,
  ⟨(some 71), none, .mov (.t 0)⟩,
  ⟨(some 72), none, .call f_plan_Commit [(.t 70), (.t 71)]⟩,
  ⟨(some 69), none, .mov (.t 72)⟩,
  ⟨(some 73), none, .ext 0 (.t 69)⟩,
  ⟨(some 74), none, .ext 1 (.t 69)⟩,
  ⟨(some 75), none, .ext 2 (.t 69)⟩,
  ⟨(some 21), none, .new [(.int .i64 0), (.int .i64 0), (.int .i64 0), (.int .i64 0), (.slice none 0 0)]⟩,
  ⟨(some 20), none, .mov (.t 73)⟩,
  ⟨none, none, .st 5 (.t 21) (.t 74)⟩,
  ⟨(some 22), none, .mov (.t 75)⟩]
@[simp] def c_law8_PlanCrash_r10 : List Ir := [⟨(some 77), none, .ldn 2 (.t 15)⟩,
  ⟨(some 78), none, .mov (.t 20)⟩,
  ⟨(some 79), none, .call f_law8_done [(.t 77), (.t 78)]⟩,
  ⟨(some 76), none, .mov (.t 79)⟩,
  ⟨(some 80), none, .ext 0 (.t 76)⟩,
  ⟨(some 81), none, .ext 1 (.t 76)⟩,
  ⟨(some 23), none, .new [(.slice none 0 0), (.slice none 0 0)]⟩,
  ⟨none, none, .st 2 (.t 23) (.t 80)⟩,
  ⟨(some 24), none, .mov (.t 81)⟩]
@[simp] def c_law8_PlanCrash_r11 : List Ir := [⟨(some 82), none, .mov (.t 24)⟩,
  ⟨(some 83), none, .mov (.t 82)⟩,
  ⟨(some 84), (some (83, true)), .mov (.t 22)⟩,
  ⟨(some 85), (some (83, true)), .call f_law0_Num [(.t 84)]⟩,
  ⟨(some 86), (some (83, true)), .bin .eql 3 (.t 85) (.c (.int .i64 0))⟩,
  ⟨(some 87), none, .pick (.t 83) (.t 86) (.c (.bool false))⟩,
  ⟨(some 16), none, .mov (.t 87)⟩]
@[simp] def c_law8_PlanCrash_r12 : List Ir := [⟨(some 88), none, .ldn 2 (.t 23)⟩,
  ⟨none, none, .st 2 (.t 15) (.t 88)⟩]
@[simp] def c_law8_PlanCrash_r13 : List Ir := [⟨(some 89), none, .ldn 5 (.t 21)⟩,
  ⟨none, none, .st 5 (.t 17) (.t 89)⟩]
@[simp] def c_law8_PlanCrash_r14 : List Ir := [⟨(some 67), none, .mov (.t 19)⟩,
  ⟨(some 68), none, .bin .add 3 (.t 67) (.c (.int .i64 1))⟩,
  ⟨(some 19), none, .mov (.t 68)⟩]
def c_law8_PlanCrash_l15 : IC := (.seq (.seq (.reg c_law8_PlanCrash_r8) (.cond (.t 66) .skip (.exit 0))) (.seq (.block 1 (.seq (.reg c_law8_PlanCrash_r9) (.seq (.reg c_law8_PlanCrash_r10) (.seq (.reg c_law8_PlanCrash_r11) (.seq (.reg c_law8_PlanCrash_r12) (.reg c_law8_PlanCrash_r13)))))) (.reg c_law8_PlanCrash_r14)))
@[simp] def c_law8_PlanCrash_r16 : List Ir := [⟨(some 91), none, .ldn 5 (.t 17)⟩,
  ⟨(some 92), none, .mov (.t 1)⟩,
  ⟨(some 93), none, .call f_plan_Commit [(.t 91), (.t 92)]⟩,
  ⟨(some 90), none, .mov (.t 93)⟩,
  ⟨(some 94), none, .ext 0 (.t 90)⟩,
  ⟨(some 95), none, .ext 1 (.t 90)⟩,
  ⟨(some 96), none, .ext 2 (.t 90)⟩,
  ⟨(some 26), none, .new [(.int .i64 0), (.int .i64 0), (.int .i64 0), (.int .i64 0), (.slice none 0 0)]⟩,
  ⟨(some 25), none, .mov (.t 94)⟩,
  ⟨none, none, .st 5 (.t 26) (.t 95)⟩,
  ⟨(some 27), none, .mov (.t 96)⟩]
@[simp] def c_law8_PlanCrash_r17 : List Ir := [⟨(some 97), none, .mov (.t 16)⟩,
  ⟨(some 98), none, .un .not (.t 97)⟩,
  ⟨(some 99), none, .mov (.t 98)⟩,
  ⟨(some 100), (some (99, false)), .mov (.t 18)⟩,
  ⟨(some 101), (some (99, false)), .bin .neq 3 (.t 100) (.c (.int .i64 0))⟩,
  ⟨(some 102), none, .pick (.t 99) (.c (.bool true)) (.t 101)⟩,
  ⟨(some 103), none, .mov (.t 102)⟩,
  ⟨(some 104), (some (103, false)), .mov (.t 27)⟩,
  ⟨(some 105), (some (103, false)), .call f_law0_Num [(.t 104)]⟩,
  ⟨(some 106), (some (103, false)), .bin .neq 3 (.t 105) (.c (.int .i64 0))⟩,
  ⟨(some 107), none, .pick (.t 103) (.c (.bool true)) (.t 106)⟩]
@[simp] def c_law8_PlanCrash_r18 : List Ir := [⟨(some 14), none, .mov (.c (.bool false))⟩]
@[simp] def c_law8_PlanCrash_r19 : List Ir := [⟨(some 108), none, .mov (.t 3)⟩,
  ⟨(some 109), none, .ii .u64 (.t 108)⟩,
  ⟨(some 110), none, .mov (.t 25)⟩,
  ⟨(some 111), none, .lenV (.t 110)⟩,
  ⟨(some 112), none, .bin .add 3 (.t 111) (.c (.int .i64 1))⟩,
  ⟨(some 113), none, .ii .u64 (.t 112)⟩,
  ⟨(some 114), none, .bin .rem 55 (.t 109) (.t 113)⟩,
  ⟨(some 115), none, .ii .i64 (.t 114)⟩,
  ⟨(some 28), none, .mov (.t 115)⟩]
@[simp] def c_law8_PlanCrash_r20 : List Ir := [⟨(some 117), none, .ldn 2 (.t 15)⟩,
  ⟨(some 118), none, .mov (.t 25)⟩,
  ⟨(some 119), none, .mov (.t 28)⟩,
  ⟨(some 120), none, .slv 3 (.t 118) none (some (.t 119)) none⟩,
  ⟨(some 29), none, .new [(.slice none 0 0), (.slice none 0 0)]⟩,
  ⟨(some 121), none, .call f_law8_done [(.t 117), (.t 120)]⟩,
  ⟨(some 116), none, .mov (.t 121)⟩,
  ⟨(some 122), none, .ext 0 (.t 116)⟩,
  ⟨(some 123), none, .ext 1 (.t 116)⟩,
  ⟨none, none, .st 2 (.t 29) (.t 122)⟩,
  ⟨(some 30), none, .mov (.t 123)⟩]
@[simp] def c_law8_PlanCrash_r21 : List Ir := [⟨(some 125), none, .ldn 2 (.t 29)⟩,
  ⟨(some 126), none, .mov (.t 4)⟩,
  ⟨(some 127), none, .mov (.t 5)⟩,
  ⟨(some 128), none, .bin .and 3 (.t 127) (.c (.int .i64 255))⟩,
  ⟨(some 129), none, .mov (.t 6)⟩,
  ⟨(some 130), none, .bin .and 3 (.t 129) (.c (.int .i64 63))⟩,
  ⟨(some 131), none, .call f_ref1_Crash [(.t 125), (.t 126), (.t 128), (.t 130)]⟩,
  ⟨(some 124), none, .mov (.t 131)⟩,
  ⟨(some 132), none, .ext 0 (.t 124)⟩,
  ⟨(some 133), none, .ext 1 (.t 124)⟩,
  ⟨(some 31), none, .new [(.slice none 0 0), (.slice none 0 0)]⟩,
  ⟨none, none, .st 2 (.t 31) (.t 132)⟩,
  ⟨(some 32), none, .mov (.t 133)⟩]
@[simp] def c_law8_PlanCrash_r22 : List Ir := [⟨(some 135), none, .ldn 2 (.t 31)⟩,
  ⟨(some 136), none, .call f_ref1_Open [(.t 135)]⟩,
  ⟨(some 134), none, .mov (.t 136)⟩,
  ⟨(some 137), none, .ext 0 (.t 134)⟩,
  ⟨(some 138), none, .ext 1 (.t 134)⟩,
  ⟨(some 33), none, .new [(.int .i64 0), (.int .i64 0), (.int .i64 0), (.int .i64 0), (.slice none 0 0)]⟩,
  ⟨none, none, .st 5 (.t 33) (.t 137)⟩,
  ⟨(some 34), none, .mov (.t 138)⟩]
@[simp] def c_law8_PlanCrash_r23 : List Ir := [⟨(some 139), none, .mov (.t 30)⟩,
  ⟨(some 140), none, .un .not (.t 139)⟩,
  ⟨(some 141), none, .mov (.t 140)⟩,
  ⟨(some 142), (some (141, false)), .mov (.t 32)⟩,
  ⟨(some 143), (some (141, false)), .bin .neq 3 (.t 142) (.c (.int .i64 0))⟩,
  ⟨(some 144), none, .pick (.t 141) (.c (.bool true)) (.t 143)⟩,
  ⟨(some 145), none, .mov (.t 144)⟩,
  ⟨(some 146), (some (145, false)), .mov (.t 34)⟩,
  ⟨(some 147), (some (145, false)), .bin .neq 3 (.t 146) (.c (.int .i64 0))⟩,
  ⟨(some 148), none, .pick (.t 145) (.c (.bool true)) (.t 147)⟩]
@[simp] def c_law8_PlanCrash_r24 : List Ir := [⟨(some 14), none, .mov (.c (.bool false))⟩]
@[simp] def c_law8_PlanCrash_r25 : List Ir := [⟨(some 149), none, .mov (.t 28)⟩,
  ⟨(some 150), none, .mov (.t 25)⟩,
  ⟨(some 151), none, .lenV (.t 150)⟩,
  ⟨(some 152), none, .bin .eql 3 (.t 149) (.t 151)⟩]
@[simp] def c_law8_PlanCrash_r26 : List Ir := [⟨(some 153), none, .fadr 4 (.t 33)⟩,
  ⟨(some 154), none, .ld (.t 153)⟩,
  ⟨(some 155), none, .fadr 4 (.t 26)⟩,
  ⟨(some 156), none, .ld (.t 155)⟩,
  ⟨(some 157), none, .call f_law0_SameTexts [(.t 154), (.t 156)]⟩,
  ⟨(some 14), none, .mov (.t 157)⟩]
@[simp] def c_law8_PlanCrash_r27 : List Ir := [⟨(some 158), none, .fadr 4 (.t 33)⟩,
  ⟨(some 159), none, .ld (.t 158)⟩,
  ⟨(some 160), none, .fadr 4 (.t 17)⟩,
  ⟨(some 161), none, .ld (.t 160)⟩,
  ⟨(some 162), none, .call f_law0_SameTexts [(.t 159), (.t 161)]⟩,
  ⟨(some 163), none, .mov (.t 162)⟩,
  ⟨(some 164), (some (163, false)), .fadr 4 (.t 33)⟩,
  ⟨(some 165), (some (163, false)), .ld (.t 164)⟩,
  ⟨(some 166), (some (163, false)), .fadr 4 (.t 26)⟩,
  ⟨(some 167), (some (163, false)), .ld (.t 166)⟩,
  ⟨(some 168), (some (163, false)), .call f_law0_SameTexts [(.t 165), (.t 167)]⟩,
  ⟨(some 169), none, .pick (.t 163) (.c (.bool true)) (.t 168)⟩,
  ⟨(some 14), none, .mov (.t 169)⟩]
@[simp] def c_law8_PlanCrash : IFn := ⟨(.seq (.reg c_law8_PlanCrash_r0) (.seq (.seq (.reg c_law8_PlanCrash_r1) (.cond (.t 36) (.seq (.reg c_law8_PlanCrash_r2) .ret) .skip)) (.seq (.seq (.reg c_law8_PlanCrash_r3) (.cond (.t 44) (.seq (.reg c_law8_PlanCrash_r4) .ret) .skip)) (.seq (.reg c_law8_PlanCrash_r5) (.seq (.reg c_law8_PlanCrash_r6) (.seq (.seq (.reg c_law8_PlanCrash_r7) (.block 0 (.loop c_law8_PlanCrash_l15))) (.seq (.reg c_law8_PlanCrash_r16) (.seq (.seq (.reg c_law8_PlanCrash_r17) (.cond (.t 107) (.seq (.reg c_law8_PlanCrash_r18) .ret) .skip)) (.seq (.reg c_law8_PlanCrash_r19) (.seq (.regd c_law8_PlanCrash_r20 []) (.seq (.reg c_law8_PlanCrash_r21) (.seq (.reg c_law8_PlanCrash_r22) (.seq (.seq (.reg c_law8_PlanCrash_r23) (.cond (.t 148) (.seq (.reg c_law8_PlanCrash_r24) .ret) .skip)) (.seq (.seq (.reg c_law8_PlanCrash_r25) (.cond (.t 152) (.seq (.reg c_law8_PlanCrash_r26) .ret) .skip)) (.seq (.reg c_law8_PlanCrash_r27) .ret))))))))))))))), 170, [.tmp 14]⟩

theorem fc_law8_PlanCrash : fnAt Try.prog f_law8_PlanCrash = some c_law8_PlanCrash := by kernel_rfl
@[simp] def c_law8_PlanForms_r0 : List Ir := [⟨(some 4), none, .mov (.c (.bool false))⟩]
@[simp] def c_law8_PlanForms_r1 : List Ir := [⟨(some 21), none, .call f_law8_awake []⟩,
  ⟨(some 22), none, .un .not (.t 21)⟩]
@[simp] def c_law8_PlanForms_r2 : List Ir := [⟨(some 4), none, .mov (.c (.bool false))⟩]
@[simp] def c_law8_PlanForms_r3 : List Ir := [⟨(some 23), none, .mov (.t 1)⟩,
  ⟨(some 24), none, .bin .and 3 (.t 23) (.c (.int .i64 1023))⟩,
  ⟨(some 25), none, .bin .add 3 (.c (.int .i64 1)) (.t 24)⟩,
  ⟨(some 5), none, .mov (.t 25)⟩]
@[simp] def c_law8_PlanForms_r4 : List Ir := [⟨(some 26), none, .call f_ref1_Blank []⟩,
  ⟨(some 6), none, .new [(.int .i64 0), (.int .i64 0), (.int .i64 0), (.int .i64 0), (.slice none 0 0)]⟩,
  ⟨none, none, .st 5 (.t 6) (.t 26)⟩]
@[simp] def c_law8_PlanForms_r5 : List Ir := [⟨(some 27), none, .ldn 5 (.t 6)⟩,
  ⟨(some 28), none, .call f_law0_CopyPager [(.t 27)]⟩,
  ⟨(some 7), none, .new [(.int .i64 0), (.int .i64 0), (.int .i64 0), (.int .i64 0), (.slice none 0 0)]⟩,
  ⟨none, none, .st 5 (.t 7) (.t 28)⟩]
@[simp] def c_law8_PlanForms_r6 : List Ir := [⟨(some 8), none, .mov (.c (.bool false))⟩]
@[simp] def c_law8_PlanForms_r7 : List Ir := [⟨(some 29), none, .mov (.t 0)⟩,
  ⟨(some 30), none, .ii .u64 (.t 29)⟩,
  ⟨(some 31), none, .bin .rem 55 (.t 30) (.c (.int .u64 10))⟩]
@[simp] def c_law8_PlanForms_r8 : List Ir := [⟨(some 36), none, .bin .eql 55 (.t 31) (.c (.int .u64 0))⟩,
  ⟨(some 35), none, .mov (.t 36)⟩]
@[simp] def c_law8_PlanForms_r9 : List Ir := [⟨(some 37), none, .mov (.t 5)⟩,
  ⟨(some 38), none, .un .neg (.t 37)⟩,
  ⟨(some 39), none, .fadr 0 (.t 7)⟩,
  ⟨(some 40), none, .fadr 0 (.t 39)⟩,
  ⟨none, none, .st 1 (.t 40) (.t 38)⟩]
@[simp] def c_law8_PlanForms_r10 : List Ir := [⟨(some 42), none, .bin .eql 55 (.t 31) (.c (.int .u64 1))⟩,
  ⟨(some 41), none, .mov (.t 42)⟩]
@[simp] def c_law8_PlanForms_r11 : List Ir := [⟨(some 43), none, .mov (.t 5)⟩,
  ⟨(some 44), none, .un .neg (.t 43)⟩,
  ⟨(some 45), none, .fadr 0 (.t 7)⟩,
  ⟨(some 46), none, .fadr 1 (.t 45)⟩,
  ⟨none, none, .st 1 (.t 46) (.t 44)⟩]
@[simp] def c_law8_PlanForms_r12 : List Ir := [⟨(some 48), none, .bin .eql 55 (.t 31) (.c (.int .u64 2))⟩,
  ⟨(some 47), none, .mov (.t 48)⟩]
@[simp] def c_law8_PlanForms_r13 : List Ir := [⟨(some 49), none, .mov (.t 5)⟩,
  ⟨(some 50), none, .un .neg (.t 49)⟩,
  ⟨(some 51), none, .fadr 2 (.t 7)⟩,
  ⟨none, none, .st 1 (.t 51) (.t 50)⟩]
@[simp] def c_law8_PlanForms_r14 : List Ir := [⟨(some 53), none, .bin .eql 55 (.t 31) (.c (.int .u64 3))⟩,
  ⟨(some 52), none, .mov (.t 53)⟩]
@[simp] def c_law8_PlanForms_r15 : List Ir := [⟨(some 54), none, .mov (.t 5)⟩,
  ⟨(some 55), none, .un .neg (.t 54)⟩,
  ⟨(some 56), none, .fadr 3 (.t 7)⟩,
  ⟨none, none, .st 1 (.t 56) (.t 55)⟩]
@[simp] def c_law8_PlanForms_r16 : List Ir := [⟨(some 58), none, .bin .eql 55 (.t 31) (.c (.int .u64 4))⟩,
  ⟨(some 57), none, .mov (.t 58)⟩]
@[simp] def c_law8_PlanForms_r17 : List Ir := [⟨(some 59), none, .mov (.t 5)⟩,
  ⟨(some 60), none, .bin .add 3 (.c (.int .i64 200)) (.t 59)⟩,
  ⟨(some 61), none, .fadr 3 (.t 7)⟩,
  ⟨none, none, .st 1 (.t 61) (.t 60)⟩]
@[simp] def c_law8_PlanForms_r18 : List Ir := [⟨(some 63), none, .bin .eql 55 (.t 31) (.c (.int .u64 5))⟩,
  ⟨(some 62), none, .mov (.t 63)⟩]
@[simp] def c_law8_PlanForms_r19 : List Ir := [⟨(some 64), none, .fadr 4 (.t 7)⟩,
  ⟨(some 65), none, .ld (.t 64)⟩,
  ⟨(some 66), none, .slv 1 (.t 65) (some (.c (.int .i64 1))) none none⟩,
  ⟨(some 67), none, .fadr 4 (.t 7)⟩,
  ⟨none, none, .st 1 (.t 67) (.t 66)⟩]
@[simp] def c_law8_PlanForms_r20 : List Ir := [⟨(some 69), none, .bin .eql 55 (.t 31) (.c (.int .u64 6))⟩,
  ⟨(some 68), none, .mov (.t 69)⟩]
@[simp] def c_law8_PlanForms_r21 : List Ir := [⟨(some 70), none, .fadr 4 (.t 7)⟩,
  ⟨(some 71), none, .ld (.t 70)⟩,
  ⟨(some 72), none, .mov (.t 5)⟩,
  ⟨(some 73), none, .bin .add 3 (.c (.int .i64 96)) (.t 72)⟩,
  ⟨(some 74), none, .mks 1 1 [(.int .u8 0)] (.t 73) (.t 73)⟩,
  ⟨(some 75), none, .b2s (.t 74)⟩,
  ⟨(some 76), none, .iadrS 1 (.t 71) (.c (.int .i64 3))⟩,
  ⟨none, none, .st 1 (.t 76) (.t 75)⟩]
@[simp] def c_law8_PlanForms_r22 : List Ir := [⟨(some 78), none, .bin .eql 55 (.t 31) (.c (.int .u64 7))⟩,
  ⟨(some 77), none, .mov (.t 78)⟩]
@[simp] def c_law8_PlanForms_r23 : List Ir := [⟨(some 79), none, .fadr 2 (.t 7)⟩,
  ⟨none, none, .st 1 (.t 79) (.c (.int .i64 2147482648))⟩]
@[simp] def c_law8_PlanForms_r24 : List Ir := [⟨(some 8), none, .mov (.c (.bool true))⟩]
@[simp] def c_law8_PlanForms_r25 : List Ir := [⟨(some 81), none, .bin .eql 55 (.t 31) (.c (.int .u64 8))⟩,
  ⟨(some 80), none, .mov (.t 81)⟩]
@[simp] def c_law8_PlanForms_r26 : List Ir := [⟨(some 82), none, .fadr 0 (.t 7)⟩,
  ⟨(some 83), none, .fadr 0 (.t 82)⟩,
  ⟨none, none, .st 1 (.t 83) (.c (.int .i64 2147482648))⟩]
@[simp] def c_law8_PlanForms_r27 : List Ir := [⟨(some 8), none, .mov (.c (.bool true))⟩]
@[simp] def c_law8_PlanForms_r28 : List Ir := [⟨(some 32), none, .mov (.t 5)⟩,
  ⟨(some 33), none, .bin .add 3 (.c (.int .i64 2147483647)) (.t 32)⟩,
  ⟨(some 34), none, .fadr 2 (.t 7)⟩,
  ⟨none, none, .st 1 (.t 34) (.t 33)⟩]
@[simp] def c_law8_PlanForms_r29 : List Ir := [⟨(some 85), none, .ldn 5 (.t 7)⟩,
  ⟨(some 86), none, .call f_plan_Fresh [(.t 85)]⟩,
  ⟨(some 84), none, .mov (.t 86)⟩,
  ⟨(some 87), none, .ext 0 (.t 84)⟩,
  ⟨(some 88), none, .ext 1 (.t 84)⟩,
  ⟨(some 89), none, .ext 2 (.t 84)⟩,
  ⟨(some 10), none, .new [(.int .i64 0), (.int .i64 0), (.int .i64 0), (.int .i64 0), (.slice none 0 0)]⟩,
  ⟨(some 9), none, .mov (.t 87)⟩,
  ⟨none, none, .st 5 (.t 10) (.t 88)⟩,
  ⟨(some 11), none, .mov (.t 89)⟩]
@[simp] def c_law8_PlanForms_r30 : List Ir := [⟨(some 91), none, .ldn 5 (.t 7)⟩,
  ⟨(some 92), none, .call f_plan_Commit [(.t 91), (.c (.slice none 0 0))]⟩,
  ⟨(some 90), none, .mov (.t 92)⟩,
  ⟨(some 93), none, .ext 0 (.t 90)⟩,
  ⟨(some 94), none, .ext 1 (.t 90)⟩,
  ⟨(some 95), none, .ext 2 (.t 90)⟩,
  ⟨(some 13), none, .new [(.int .i64 0), (.int .i64 0), (.int .i64 0), (.int .i64 0), (.slice none 0 0)]⟩,
  ⟨(some 12), none, .mov (.t 93)⟩,
  ⟨none, none, .st 5 (.t 13) (.t 94)⟩,
  ⟨(some 14), none, .mov (.t 95)⟩]
@[simp] def c_law8_PlanForms_r31 : List Ir := [⟨(some 97), none, .ldn 5 (.t 6)⟩,
  ⟨(some 98), none, .build [(.int .i64 0), (.string ⟨#[]⟩)] [(0, (1, (.c (.int .i64 2))))]⟩,
  ⟨(some 99), none, .build [(.int .i64 0), (.string ⟨#[]⟩)] [(0, (1, (.c (.int .i64 1))))]⟩,
  ⟨(some 100), none, .mkrow 2 2 [(.int .i64 0), (.string ⟨#[]⟩), (.int .i64 0), (.string ⟨#[]⟩)] [(0, (2, (.t 98))), (2, (2, (.t 99)))]⟩,
  ⟨(some 101), none, .call f_plan_Commit [(.t 97), (.t 100)]⟩,
  ⟨(some 96), none, .mov (.t 101)⟩,
  ⟨(some 102), none, .ext 0 (.t 96)⟩,
  ⟨(some 103), none, .ext 1 (.t 96)⟩,
  ⟨(some 104), none, .ext 2 (.t 96)⟩,
  ⟨(some 16), none, .new [(.int .i64 0), (.int .i64 0), (.int .i64 0), (.int .i64 0), (.slice none 0 0)]⟩,
  ⟨(some 15), none, .mov (.t 102)⟩,
  ⟨none, none, .st 5 (.t 16) (.t 103)⟩,
  ⟨(some 17), none, .mov (.t 104)⟩]
@[simp] def c_law8_PlanForms_r32 : List Ir := [⟨(some 106), none, .ldn 5 (.t 6)⟩,
  ⟨(some 107), none, .call f_plan_Commit [(.t 106), (.c (.slice none 0 0))]⟩,
  ⟨(some 105), none, .mov (.t 107)⟩,
  ⟨(some 108), none, .ext 0 (.t 105)⟩,
  ⟨(some 109), none, .ext 1 (.t 105)⟩,
  ⟨(some 110), none, .ext 2 (.t 105)⟩,
  ⟨(some 19), none, .new [(.int .i64 0), (.int .i64 0), (.int .i64 0), (.int .i64 0), (.slice none 0 0)]⟩,
  ⟨(some 18), none, .mov (.t 108)⟩,
  ⟨none, none, .st 5 (.t 19) (.t 109)⟩,
  ⟨(some 20), none, .mov (.t 110)⟩]
@[simp] def c_law8_PlanForms_r33 : List Ir := [⟨(some 111), none, .ldn 5 (.t 7)⟩,
  ⟨(some 112), none, .call f_plan_May [(.t 111)]⟩,
  ⟨(some 113), none, .mov (.t 8)⟩,
  ⟨(some 114), none, .bin .eql 4 (.t 112) (.t 113)⟩,
  ⟨(some 115), none, .mov (.t 114)⟩,
  ⟨(some 116), (some (115, true)), .ldn 5 (.t 6)⟩,
  ⟨(some 117), (some (115, true)), .call f_plan_May [(.t 116)]⟩,
  ⟨(some 118), none, .pick (.t 115) (.t 117) (.c (.bool false))⟩,
  ⟨(some 119), none, .mov (.t 118)⟩,
  ⟨(some 120), (some (119, true)), .mov (.t 9)⟩,
  ⟨(some 121), (some (119, true)), .lenV (.t 120)⟩,
  ⟨(some 122), (some (119, true)), .mov (.t 12)⟩,
  ⟨(some 123), (some (119, true)), .lenV (.t 122)⟩,
  ⟨(some 124), (some (119, true)), .bin .add 3 (.t 121) (.t 123)⟩,
  ⟨(some 125), (some (119, true)), .mov (.t 15)⟩,
  ⟨(some 126), (some (119, true)), .lenV (.t 125)⟩,
  ⟨(some 127), (some (119, true)), .bin .add 3 (.t 124) (.t 126)⟩,
  ⟨(some 128), (some (119, true)), .bin .eql 3 (.t 127) (.c (.int .i64 0))⟩,
  ⟨(some 129), none, .pick (.t 119) (.t 128) (.c (.bool false))⟩,
  ⟨(some 130), none, .mov (.t 129)⟩,
  ⟨(some 131), (some (130, true)), .mov (.t 11)⟩,
  ⟨(some 132), (some (130, true)), .call f_law0_Num [(.t 131)]⟩,
  ⟨(some 133), (some (130, true)), .bin .eql 3 (.t 132) (.c (.int .i64 800))⟩,
  ⟨(some 134), none, .pick (.t 130) (.t 133) (.c (.bool false))⟩,
  ⟨(some 135), none, .mov (.t 134)⟩,
  ⟨(some 136), (some (135, true)), .mov (.t 14)⟩,
  ⟨(some 137), (some (135, true)), .call f_law0_Num [(.t 136)]⟩,
  ⟨(some 138), (some (135, true)), .bin .eql 3 (.t 137) (.c (.int .i64 800))⟩,
  ⟨(some 139), none, .pick (.t 135) (.t 138) (.c (.bool false))⟩,
  ⟨(some 140), none, .mov (.t 139)⟩,
  ⟨(some 141), (some (140, true)), .mov (.t 17)⟩,
  ⟨(some 142), (some (140, true)), .call f_law0_Num [(.t 141)]⟩,
  ⟨(some 143), (some (140, true)), .bin .eql 3 (.t 142) (.c (.int .i64 800))⟩,
  ⟨(some 144), none, .pick (.t 140) (.t 143) (.c (.bool false))⟩,
  ⟨(some 145), none, .mov (.t 144)⟩,
  ⟨(some 146), (some (145, true)), .mov (.t 18)⟩,
  ⟨(some 147), (some (145, true)), .lenV (.t 146)⟩,
  ⟨(some 148), (some (145, true)), .bin .eql 3 (.t 147) (.c (.int .i64 0))⟩,
  ⟨(some 149), none, .pick (.t 145) (.t 148) (.c (.bool false))⟩,
  ⟨(some 150), none, .mov (.t 149)⟩,
  ⟨(some 151), (some (150, true)), .ldn 5 (.t 19)⟩,
  ⟨(some 152), (some (150, true)), .ldn 5 (.t 6)⟩,
  ⟨(some 153), (some (150, true)), .call f_law0_SamePager [(.t 151), (.t 152)]⟩,
  ⟨(some 154), none, .pick (.t 150) (.t 153) (.c (.bool false))⟩,
  ⟨(some 155), none, .mov (.t 154)⟩,
  ⟨(some 156), (some (155, true)), .mov (.t 20)⟩,
  ⟨(some 157), (some (155, true)), .call f_law0_Num [(.t 156)]⟩,
  ⟨(some 158), (some (155, true)), .bin .eql 3 (.t 157) (.c (.int .i64 0))⟩,
  ⟨(some 159), none, .pick (.t 155) (.t 158) (.c (.bool false))⟩,
  ⟨(some 4), none, .mov (.t 159)⟩]
@[simp] def c_law8_PlanForms : IFn := ⟨(.seq (.reg c_law8_PlanForms_r0) (.seq (.seq (.reg c_law8_PlanForms_r1) (.cond (.t 22) (.seq (.reg c_law8_PlanForms_r2) .ret) .skip)) (.seq (.reg c_law8_PlanForms_r3) (.seq (.reg c_law8_PlanForms_r4) (.seq (.reg c_law8_PlanForms_r5) (.seq (.reg c_law8_PlanForms_r6) (.seq (.seq (.reg c_law8_PlanForms_r7) (.block 0 (.seq (.reg c_law8_PlanForms_r8) (.cond (.t 35) (.reg c_law8_PlanForms_r9) (.seq (.reg c_law8_PlanForms_r10) (.cond (.t 41) (.reg c_law8_PlanForms_r11) (.seq (.reg c_law8_PlanForms_r12) (.cond (.t 47) (.reg c_law8_PlanForms_r13) (.seq (.reg c_law8_PlanForms_r14) (.cond (.t 52) (.reg c_law8_PlanForms_r15) (.seq (.reg c_law8_PlanForms_r16) (.cond (.t 57) (.reg c_law8_PlanForms_r17) (.seq (.reg c_law8_PlanForms_r18) (.cond (.t 62) (.reg c_law8_PlanForms_r19) (.seq (.reg c_law8_PlanForms_r20) (.cond (.t 68) (.regd c_law8_PlanForms_r21 []) (.seq (.reg c_law8_PlanForms_r22) (.cond (.t 77) (.seq (.reg c_law8_PlanForms_r23) (.reg c_law8_PlanForms_r24)) (.seq (.reg c_law8_PlanForms_r25) (.cond (.t 80) (.seq (.reg c_law8_PlanForms_r26) (.reg c_law8_PlanForms_r27)) (.reg c_law8_PlanForms_r28))))))))))))))))))))) (.seq (.reg c_law8_PlanForms_r29) (.seq (.reg c_law8_PlanForms_r30) (.seq (.reg c_law8_PlanForms_r31) (.seq (.reg c_law8_PlanForms_r32) (.seq (.reg c_law8_PlanForms_r33) .ret)))))))))))), 160, [.tmp 4]⟩

theorem fc_law8_PlanForms : fnAt Try.prog f_law8_PlanForms = some c_law8_PlanForms := by kernel_rfl
@[simp] def c_law8_PlanFresh_r0 : List Ir := [⟨(some 10), none, .mov (.c (.bool false))⟩]
@[simp] def c_law8_PlanFresh_r1 : List Ir := [⟨(some 27), none, .call f_law8_awake []⟩,
  ⟨(some 28), none, .un .not (.t 27)⟩]
@[simp] def c_law8_PlanFresh_r2 : List Ir := [⟨(some 10), none, .mov (.c (.bool false))⟩]
@[simp] def c_law8_PlanFresh_r3 : List Ir := [⟨(some 29), none, .mov (.t 0)⟩,
  ⟨(some 30), none, .call f_ref1_ImagesMay [(.t 29)]⟩,
  ⟨(some 31), none, .un .not (.t 30)⟩]
@[simp] def c_law8_PlanFresh_r4 : List Ir := [⟨(some 10), none, .mov (.c (.bool true))⟩]
@[simp] def c_law8_PlanFresh_r5 : List Ir := [⟨(some 33), none, .call f_ref1_NewDisk []⟩,
  ⟨(some 34), none, .call f_plan_Format []⟩,
  ⟨(some 35), none, .call f_law8_done [(.t 33), (.t 34)]⟩,
  ⟨(some 32), none, .mov (.t 35)⟩,
  ⟨(some 36), none, .ext 0 (.t 32)⟩,
  ⟨(some 37), none, .ext 1 (.t 32)⟩,
  ⟨(some 11), none, .new [(.slice none 0 0), (.slice none 0 0)]⟩,
  ⟨none, none, .st 2 (.t 11) (.t 36)⟩,
  ⟨(some 12), none, .mov (.t 37)⟩]
@[simp] def c_law8_PlanFresh_r6 : List Ir := [⟨(some 39), none, .call f_ref1_Blank []⟩,
  ⟨(some 40), none, .mov (.t 0)⟩,
  ⟨(some 41), none, .call f_plan_Commit [(.t 39), (.t 40)]⟩,
  ⟨(some 38), none, .mov (.t 41)⟩,
  ⟨(some 42), none, .ext 0 (.t 38)⟩,
  ⟨(some 43), none, .ext 1 (.t 38)⟩,
  ⟨(some 44), none, .ext 2 (.t 38)⟩,
  ⟨(some 14), none, .new [(.int .i64 0), (.int .i64 0), (.int .i64 0), (.int .i64 0), (.slice none 0 0)]⟩,
  ⟨(some 13), none, .mov (.t 42)⟩,
  ⟨none, none, .st 5 (.t 14) (.t 43)⟩,
  ⟨(some 15), none, .mov (.t 44)⟩]
@[simp] def c_law8_PlanFresh_r7 : List Ir := [⟨(some 46), none, .ldn 2 (.t 11)⟩,
  ⟨(some 47), none, .mov (.t 13)⟩,
  ⟨(some 48), none, .call f_law8_done [(.t 46), (.t 47)]⟩,
  ⟨(some 45), none, .mov (.t 48)⟩,
  ⟨(some 49), none, .ext 0 (.t 45)⟩,
  ⟨(some 50), none, .ext 1 (.t 45)⟩,
  ⟨none, none, .st 2 (.t 11) (.t 49)⟩,
  ⟨(some 16), none, .mov (.t 50)⟩]
@[simp] def c_law8_PlanFresh_r8 : List Ir := [⟨(some 52), none, .ldn 5 (.t 14)⟩,
  ⟨(some 53), none, .call f_plan_Fresh [(.t 52)]⟩,
  ⟨(some 51), none, .mov (.t 53)⟩,
  ⟨(some 54), none, .ext 0 (.t 51)⟩,
  ⟨(some 55), none, .ext 1 (.t 51)⟩,
  ⟨(some 56), none, .ext 2 (.t 51)⟩,
  ⟨(some 18), none, .new [(.int .i64 0), (.int .i64 0), (.int .i64 0), (.int .i64 0), (.slice none 0 0)]⟩,
  ⟨(some 17), none, .mov (.t 54)⟩,
  ⟨none, none, .st 5 (.t 18) (.t 55)⟩,
  ⟨(some 19), none, .mov (.t 56)⟩]
@[simp] def c_law8_PlanFresh_r9 : List Ir := [⟨(some 57), none, .mov (.t 12)⟩,
  ⟨(some 58), none, .un .not (.t 57)⟩,
  ⟨(some 59), none, .mov (.t 58)⟩,
  ⟨(some 60), (some (59, false)), .mov (.t 16)⟩,
  ⟨(some 61), (some (59, false)), .un .not (.t 60)⟩,
  ⟨(some 62), none, .pick (.t 59) (.c (.bool true)) (.t 61)⟩,
  ⟨(some 63), none, .mov (.t 62)⟩,
  ⟨(some 64), (some (63, false)), .mov (.t 15)⟩,
  ⟨(some 65), (some (63, false)), .call f_law0_Num [(.t 64)]⟩,
  ⟨(some 66), (some (63, false)), .bin .neq 3 (.t 65) (.c (.int .i64 0))⟩,
  ⟨(some 67), none, .pick (.t 63) (.c (.bool true)) (.t 66)⟩,
  ⟨(some 68), none, .mov (.t 67)⟩,
  ⟨(some 69), (some (68, false)), .mov (.t 19)⟩,
  ⟨(some 70), (some (68, false)), .call f_law0_Num [(.t 69)]⟩,
  ⟨(some 71), (some (68, false)), .bin .neq 3 (.t 70) (.c (.int .i64 0))⟩,
  ⟨(some 72), none, .pick (.t 68) (.c (.bool true)) (.t 71)⟩,
  ⟨(some 73), none, .mov (.t 72)⟩,
  ⟨(some 74), (some (73, false)), .fadr 2 (.t 18)⟩,
  ⟨(some 75), (some (73, false)), .ld (.t 74)⟩,
  ⟨(some 76), (some (73, false)), .fadr 2 (.t 14)⟩,
  ⟨(some 77), (some (73, false)), .ld (.t 76)⟩,
  ⟨(some 78), (some (73, false)), .bin .add 3 (.t 77) (.c (.int .i64 200))⟩,
  ⟨(some 79), (some (73, false)), .bin .lss 3 (.t 75) (.t 78)⟩,
  ⟨(some 80), none, .pick (.t 73) (.c (.bool true)) (.t 79)⟩,
  ⟨(some 81), none, .mov (.t 80)⟩,
  ⟨(some 82), (some (81, false)), .fadr 3 (.t 18)⟩,
  ⟨(some 83), (some (81, false)), .ld (.t 82)⟩,
  ⟨(some 84), (some (81, false)), .bin .neq 3 (.t 83) (.c (.int .i64 0))⟩,
  ⟨(some 85), none, .pick (.t 81) (.c (.bool true)) (.t 84)⟩,
  ⟨(some 86), none, .mov (.t 85)⟩,
  ⟨(some 87), (some (86, false)), .fadr 4 (.t 18)⟩,
  ⟨(some 88), (some (86, false)), .ld (.t 87)⟩,
  ⟨(some 89), (some (86, false)), .fadr 4 (.t 14)⟩,
  ⟨(some 90), (some (86, false)), .ld (.t 89)⟩,
  ⟨(some 91), (some (86, false)), .call f_law0_SameTexts [(.t 88), (.t 90)]⟩,
  ⟨(some 92), (some (86, false)), .un .not (.t 91)⟩,
  ⟨(some 93), none, .pick (.t 86) (.c (.bool true)) (.t 92)⟩]
@[simp] def c_law8_PlanFresh_r10 : List Ir := [⟨(some 10), none, .mov (.c (.bool false))⟩]
@[simp] def c_law8_PlanFresh_r11 : List Ir := [⟨(some 94), none, .mov (.t 1)⟩,
  ⟨(some 95), none, .ii .u64 (.t 94)⟩,
  ⟨(some 96), none, .mov (.t 17)⟩,
  ⟨(some 97), none, .lenV (.t 96)⟩,
  ⟨(some 98), none, .bin .add 3 (.t 97) (.c (.int .i64 1))⟩,
  ⟨(some 99), none, .ii .u64 (.t 98)⟩,
  ⟨(some 100), none, .bin .rem 55 (.t 95) (.t 99)⟩,
  ⟨(some 101), none, .ii .i64 (.t 100)⟩,
  ⟨(some 20), none, .mov (.t 101)⟩]
@[simp] def c_law8_PlanFresh_r12 : List Ir := [⟨(some 103), none, .ldn 2 (.t 11)⟩,
  ⟨(some 104), none, .mov (.t 17)⟩,
  ⟨(some 105), none, .mov (.t 20)⟩,
  ⟨(some 106), none, .slv 3 (.t 104) none (some (.t 105)) none⟩,
  ⟨(some 21), none, .new [(.slice none 0 0), (.slice none 0 0)]⟩,
  ⟨(some 107), none, .call f_law8_done [(.t 103), (.t 106)]⟩,
  ⟨(some 102), none, .mov (.t 107)⟩,
  ⟨(some 108), none, .ext 0 (.t 102)⟩,
  ⟨(some 109), none, .ext 1 (.t 102)⟩,
  ⟨none, none, .st 2 (.t 21) (.t 108)⟩,
  ⟨(some 22), none, .mov (.t 109)⟩]
@[simp] def c_law8_PlanFresh_r13 : List Ir := [⟨(some 111), none, .ldn 2 (.t 21)⟩,
  ⟨(some 112), none, .mov (.t 2)⟩,
  ⟨(some 113), none, .mov (.t 3)⟩,
  ⟨(some 114), none, .bin .and 3 (.t 113) (.c (.int .i64 255))⟩,
  ⟨(some 115), none, .mov (.t 4)⟩,
  ⟨(some 116), none, .bin .and 3 (.t 115) (.c (.int .i64 63))⟩,
  ⟨(some 117), none, .call f_ref1_Crash [(.t 111), (.t 112), (.t 114), (.t 116)]⟩,
  ⟨(some 110), none, .mov (.t 117)⟩,
  ⟨(some 118), none, .ext 0 (.t 110)⟩,
  ⟨(some 119), none, .ext 1 (.t 110)⟩,
  ⟨(some 23), none, .new [(.slice none 0 0), (.slice none 0 0)]⟩,
  ⟨none, none, .st 2 (.t 23) (.t 118)⟩,
  ⟨(some 24), none, .mov (.t 119)⟩]
@[simp] def c_law8_PlanFresh_r14 : List Ir := [⟨(some 121), none, .ldn 2 (.t 23)⟩,
  ⟨(some 122), none, .call f_ref1_Open [(.t 121)]⟩,
  ⟨(some 120), none, .mov (.t 122)⟩,
  ⟨(some 123), none, .ext 0 (.t 120)⟩,
  ⟨(some 124), none, .ext 1 (.t 120)⟩,
  ⟨(some 25), none, .new [(.int .i64 0), (.int .i64 0), (.int .i64 0), (.int .i64 0), (.slice none 0 0)]⟩,
  ⟨none, none, .st 5 (.t 25) (.t 123)⟩,
  ⟨(some 26), none, .mov (.t 124)⟩]
@[simp] def c_law8_PlanFresh_r15 : List Ir := [⟨(some 125), none, .mov (.t 22)⟩,
  ⟨(some 126), none, .un .not (.t 125)⟩,
  ⟨(some 127), none, .mov (.t 126)⟩,
  ⟨(some 128), (some (127, false)), .mov (.t 24)⟩,
  ⟨(some 129), (some (127, false)), .bin .neq 3 (.t 128) (.c (.int .i64 0))⟩,
  ⟨(some 130), none, .pick (.t 127) (.c (.bool true)) (.t 129)⟩,
  ⟨(some 131), none, .mov (.t 130)⟩,
  ⟨(some 132), (some (131, false)), .mov (.t 26)⟩,
  ⟨(some 133), (some (131, false)), .bin .neq 3 (.t 132) (.c (.int .i64 0))⟩,
  ⟨(some 134), none, .pick (.t 131) (.c (.bool true)) (.t 133)⟩,
  ⟨(some 135), none, .mov (.t 134)⟩,
  ⟨(some 136), (some (135, false)), .fadr 4 (.t 25)⟩,
  ⟨(some 137), (some (135, false)), .ld (.t 136)⟩,
  ⟨(some 138), (some (135, false)), .fadr 4 (.t 14)⟩,
  ⟨(some 139), (some (135, false)), .ld (.t 138)⟩,
  ⟨(some 140), (some (135, false)), .call f_law0_SameTexts [(.t 137), (.t 139)]⟩,
  ⟨(some 141), (some (135, false)), .un .not (.t 140)⟩,
  ⟨(some 142), none, .pick (.t 135) (.c (.bool true)) (.t 141)⟩]
@[simp] def c_law8_PlanFresh_r16 : List Ir := [⟨(some 10), none, .mov (.c (.bool false))⟩]
@[simp] def c_law8_PlanFresh_r17 : List Ir := [⟨(some 143), none, .mov (.t 20)⟩,
  ⟨(some 144), none, .mov (.t 17)⟩,
  ⟨(some 145), none, .lenV (.t 144)⟩,
  ⟨(some 146), none, .bin .lss 3 (.t 143) (.t 145)⟩,
  ⟨(some 147), none, .mov (.t 146)⟩,
  ⟨(some 148), (some (147, false)), .ldn 5 (.t 25)⟩,
  ⟨(some 149), (some (147, false)), .ldn 5 (.t 18)⟩,
  ⟨(some 150), (some (147, false)), .call f_law0_SamePager [(.t 148), (.t 149)]⟩,
  ⟨(some 151), none, .pick (.t 147) (.c (.bool true)) (.t 150)⟩,
  ⟨(some 10), none, .mov (.t 151)⟩]
@[simp] def c_law8_PlanFresh : IFn := ⟨(.seq (.reg c_law8_PlanFresh_r0) (.seq (.seq (.reg c_law8_PlanFresh_r1) (.cond (.t 28) (.seq (.reg c_law8_PlanFresh_r2) .ret) .skip)) (.seq (.seq (.reg c_law8_PlanFresh_r3) (.cond (.t 31) (.seq (.reg c_law8_PlanFresh_r4) .ret) .skip)) (.seq (.reg c_law8_PlanFresh_r5) (.seq (.reg c_law8_PlanFresh_r6) (.seq (.reg c_law8_PlanFresh_r7) (.seq (.reg c_law8_PlanFresh_r8) (.seq (.seq (.reg c_law8_PlanFresh_r9) (.cond (.t 93) (.seq (.reg c_law8_PlanFresh_r10) .ret) .skip)) (.seq (.reg c_law8_PlanFresh_r11) (.seq (.regd c_law8_PlanFresh_r12 []) (.seq (.reg c_law8_PlanFresh_r13) (.seq (.reg c_law8_PlanFresh_r14) (.seq (.seq (.reg c_law8_PlanFresh_r15) (.cond (.t 142) (.seq (.reg c_law8_PlanFresh_r16) .ret) .skip)) (.seq (.reg c_law8_PlanFresh_r17) .ret)))))))))))))), 152, [.tmp 10]⟩

theorem fc_law8_PlanFresh : fnAt Try.prog f_law8_PlanFresh = some c_law8_PlanFresh := by kernel_rfl
@[simp] def c_law8_PlanAgain_r0 : List Ir := [⟨(some 10), none, .mov (.c (.bool false))⟩]
@[simp] def c_law8_PlanAgain_r1 : List Ir := [⟨(some 37), none, .call f_law8_awake []⟩,
  ⟨(some 38), none, .un .not (.t 37)⟩]
@[simp] def c_law8_PlanAgain_r2 : List Ir := [⟨(some 10), none, .mov (.c (.bool false))⟩]
@[simp] def c_law8_PlanAgain_r3 : List Ir := [⟨(some 39), none, .mov (.t 0)⟩,
  ⟨(some 40), none, .call f_ref1_ImagesMay [(.t 39)]⟩,
  ⟨(some 41), none, .un .not (.t 40)⟩,
  ⟨(some 42), none, .mov (.t 41)⟩,
  ⟨(some 43), (some (42, false)), .mov (.t 1)⟩,
  ⟨(some 44), (some (42, false)), .call f_ref1_ImagesMay [(.t 43)]⟩,
  ⟨(some 45), (some (42, false)), .un .not (.t 44)⟩,
  ⟨(some 46), none, .pick (.t 42) (.c (.bool true)) (.t 45)⟩,
  ⟨(some 47), none, .mov (.t 46)⟩,
  ⟨(some 48), (some (47, false)), .mov (.t 0)⟩,
  ⟨(some 49), (some (47, false)), .lenV (.t 48)⟩,
  ⟨(some 50), (some (47, false)), .bin .eql 3 (.t 49) (.c (.int .i64 0))⟩,
  ⟨(some 51), none, .pick (.t 47) (.c (.bool true)) (.t 50)⟩,
  ⟨(some 52), none, .mov (.t 51)⟩,
  ⟨(some 53), (some (52, false)), .mov (.t 1)⟩,
  ⟨(some 54), (some (52, false)), .lenV (.t 53)⟩,
  ⟨(some 55), (some (52, false)), .bin .eql 3 (.t 54) (.c (.int .i64 0))⟩,
  ⟨(some 56), none, .pick (.t 52) (.c (.bool true)) (.t 55)⟩]
@[simp] def c_law8_PlanAgain_r4 : List Ir := [⟨(some 10), none, .mov (.c (.bool true))⟩]
@[simp] def c_law8_PlanAgain_r5 : List Ir := [⟨(some 58), none, .call f_ref1_NewDisk []⟩,
  ⟨(some 59), none, .call f_plan_Format []⟩,
  ⟨(some 60), none, .call f_law8_done [(.t 58), (.t 59)]⟩,
  ⟨(some 57), none, .mov (.t 60)⟩,
  ⟨(some 61), none, .ext 0 (.t 57)⟩,
  ⟨(some 62), none, .ext 1 (.t 57)⟩,
  ⟨(some 11), none, .new [(.slice none 0 0), (.slice none 0 0)]⟩,
  ⟨none, none, .st 2 (.t 11) (.t 61)⟩,
  ⟨(some 12), none, .mov (.t 62)⟩]
@[simp] def c_law8_PlanAgain_r6 : List Ir := [⟨(some 64), none, .call f_ref1_Blank []⟩,
  ⟨(some 65), none, .mov (.t 0)⟩,
  ⟨(some 66), none, .call f_plan_Commit [(.t 64), (.t 65)]⟩,
  ⟨(some 63), none, .mov (.t 66)⟩,
  ⟨(some 67), none, .ext 0 (.t 63)⟩,
  ⟨(some 68), none, .ext 1 (.t 63)⟩,
  ⟨(some 69), none, .ext 2 (.t 63)⟩,
  ⟨(some 14), none, .new [(.int .i64 0), (.int .i64 0), (.int .i64 0), (.int .i64 0), (.slice none 0 0)]⟩,
  ⟨(some 13), none, .mov (.t 67)⟩,
  ⟨none, none, .st 5 (.t 14) (.t 68)⟩,
  ⟨(some 15), none, .mov (.t 69)⟩]
@[simp] def c_law8_PlanAgain_r7 : List Ir := [⟨(some 70), none, .mov (.t 12)⟩,
  ⟨(some 71), none, .un .not (.t 70)⟩,
  ⟨(some 72), none, .mov (.t 71)⟩,
  ⟨(some 73), (some (72, false)), .mov (.t 15)⟩,
  ⟨(some 74), (some (72, false)), .call f_law0_Num [(.t 73)]⟩,
  ⟨(some 75), (some (72, false)), .bin .neq 3 (.t 74) (.c (.int .i64 0))⟩,
  ⟨(some 76), none, .pick (.t 72) (.c (.bool true)) (.t 75)⟩,
  ⟨(some 77), none, .mov (.t 76)⟩,
  ⟨(some 78), (some (77, false)), .mov (.t 13)⟩,
  ⟨(some 79), (some (77, false)), .lenV (.t 78)⟩,
  ⟨(some 80), (some (77, false)), .bin .lss 3 (.t 79) (.c (.int .i64 2))⟩,
  ⟨(some 81), none, .pick (.t 77) (.c (.bool true)) (.t 80)⟩]
@[simp] def c_law8_PlanAgain_r8 : List Ir := [⟨(some 10), none, .mov (.c (.bool false))⟩]
@[simp] def c_law8_PlanAgain_r9 : List Ir := [⟨(some 83), none, .ldn 2 (.t 11)⟩,
  ⟨(some 84), none, .mov (.t 13)⟩,
  ⟨(some 85), none, .mov (.t 13)⟩,
  ⟨(some 86), none, .lenV (.t 85)⟩,
  ⟨(some 87), none, .bin .sub 3 (.t 86) (.c (.int .i64 1))⟩,
  ⟨(some 88), none, .slv 3 (.t 84) none (some (.t 87)) none⟩,
  ⟨(some 16), none, .new [(.slice none 0 0), (.slice none 0 0)]⟩,
  ⟨(some 89), none, .call f_law8_done [(.t 83), (.t 88)]⟩,
  ⟨(some 82), none, .mov (.t 89)⟩,
  ⟨(some 90), none, .ext 0 (.t 82)⟩,
  ⟨(some 91), none, .ext 1 (.t 82)⟩,
  ⟨none, none, .st 2 (.t 16) (.t 90)⟩,
  ⟨(some 17), none, .mov (.t 91)⟩]
@[simp] def c_law8_PlanAgain_r10 : List Ir := [⟨(some 93), none, .ldn 2 (.t 16)⟩,
  ⟨(some 94), none, .mov (.t 2)⟩,
  ⟨(some 95), none, .call f_ref1_Crash [(.t 93), (.t 94), (.c (.int .i64 (-1))), (.c (.int .i64 0))]⟩,
  ⟨(some 92), none, .mov (.t 95)⟩,
  ⟨(some 96), none, .ext 0 (.t 92)⟩,
  ⟨(some 97), none, .ext 1 (.t 92)⟩,
  ⟨(some 18), none, .new [(.slice none 0 0), (.slice none 0 0)]⟩,
  ⟨none, none, .st 2 (.t 18) (.t 96)⟩,
  ⟨(some 19), none, .mov (.t 97)⟩]
@[simp] def c_law8_PlanAgain_r11 : List Ir := [⟨(some 99), none, .ldn 2 (.t 18)⟩,
  ⟨(some 100), none, .call f_ref1_Open [(.t 99)]⟩,
  ⟨(some 98), none, .mov (.t 100)⟩,
  ⟨(some 101), none, .ext 0 (.t 98)⟩,
  ⟨(some 102), none, .ext 1 (.t 98)⟩,
  ⟨(some 20), none, .new [(.int .i64 0), (.int .i64 0), (.int .i64 0), (.int .i64 0), (.slice none 0 0)]⟩,
  ⟨none, none, .st 5 (.t 20) (.t 101)⟩,
  ⟨(some 21), none, .mov (.t 102)⟩]
@[simp] def c_law8_PlanAgain_r12 : List Ir := [⟨(some 104), none, .ldn 5 (.t 20)⟩,
  ⟨(some 105), none, .call f_plan_Fresh [(.t 104)]⟩,
  ⟨(some 103), none, .mov (.t 105)⟩,
  ⟨(some 106), none, .ext 0 (.t 103)⟩,
  ⟨(some 107), none, .ext 1 (.t 103)⟩,
  ⟨(some 108), none, .ext 2 (.t 103)⟩,
  ⟨(some 23), none, .new [(.int .i64 0), (.int .i64 0), (.int .i64 0), (.int .i64 0), (.slice none 0 0)]⟩,
  ⟨(some 22), none, .mov (.t 106)⟩,
  ⟨none, none, .st 5 (.t 23) (.t 107)⟩,
  ⟨(some 24), none, .mov (.t 108)⟩]
@[simp] def c_law8_PlanAgain_r13 : List Ir := [⟨(some 110), none, .ldn 2 (.t 18)⟩,
  ⟨(some 111), none, .mov (.t 22)⟩,
  ⟨(some 112), none, .call f_law8_done [(.t 110), (.t 111)]⟩,
  ⟨(some 109), none, .mov (.t 112)⟩,
  ⟨(some 113), none, .ext 0 (.t 109)⟩,
  ⟨(some 114), none, .ext 1 (.t 109)⟩,
  ⟨(some 25), none, .new [(.slice none 0 0), (.slice none 0 0)]⟩,
  ⟨none, none, .st 2 (.t 25) (.t 113)⟩,
  ⟨(some 26), none, .mov (.t 114)⟩]
@[simp] def c_law8_PlanAgain_r14 : List Ir := [⟨(some 116), none, .ldn 5 (.t 23)⟩,
  ⟨(some 117), none, .mov (.t 1)⟩,
  ⟨(some 118), none, .call f_plan_Commit [(.t 116), (.t 117)]⟩,
  ⟨(some 115), none, .mov (.t 118)⟩,
  ⟨(some 119), none, .ext 0 (.t 115)⟩,
  ⟨(some 120), none, .ext 1 (.t 115)⟩,
  ⟨(some 121), none, .ext 2 (.t 115)⟩,
  ⟨(some 28), none, .new [(.int .i64 0), (.int .i64 0), (.int .i64 0), (.int .i64 0), (.slice none 0 0)]⟩,
  ⟨(some 27), none, .mov (.t 119)⟩,
  ⟨none, none, .st 5 (.t 28) (.t 120)⟩,
  ⟨(some 29), none, .mov (.t 121)⟩]
@[simp] def c_law8_PlanAgain_r15 : List Ir := [⟨(some 122), none, .mov (.t 17)⟩,
  ⟨(some 123), none, .un .not (.t 122)⟩,
  ⟨(some 124), none, .mov (.t 123)⟩,
  ⟨(some 125), (some (124, false)), .mov (.t 26)⟩,
  ⟨(some 126), (some (124, false)), .un .not (.t 125)⟩,
  ⟨(some 127), none, .pick (.t 124) (.c (.bool true)) (.t 126)⟩,
  ⟨(some 128), none, .mov (.t 127)⟩,
  ⟨(some 129), (some (128, false)), .mov (.t 21)⟩,
  ⟨(some 130), (some (128, false)), .bin .neq 3 (.t 129) (.c (.int .i64 0))⟩,
  ⟨(some 131), none, .pick (.t 128) (.c (.bool true)) (.t 130)⟩,
  ⟨(some 132), none, .mov (.t 131)⟩,
  ⟨(some 133), (some (132, false)), .mov (.t 24)⟩,
  ⟨(some 134), (some (132, false)), .call f_law0_Num [(.t 133)]⟩,
  ⟨(some 135), (some (132, false)), .bin .neq 3 (.t 134) (.c (.int .i64 0))⟩,
  ⟨(some 136), none, .pick (.t 132) (.c (.bool true)) (.t 135)⟩,
  ⟨(some 137), none, .mov (.t 136)⟩,
  ⟨(some 138), (some (137, false)), .mov (.t 29)⟩,
  ⟨(some 139), (some (137, false)), .call f_law0_Num [(.t 138)]⟩,
  ⟨(some 140), (some (137, false)), .bin .neq 3 (.t 139) (.c (.int .i64 0))⟩,
  ⟨(some 141), none, .pick (.t 137) (.c (.bool true)) (.t 140)⟩]
@[simp] def c_law8_PlanAgain_r16 : List Ir := [⟨(some 10), none, .mov (.c (.bool false))⟩]
@[simp] def c_law8_PlanAgain_r17 : List Ir := [⟨(some 142), none, .mov (.t 27)⟩,
  ⟨(some 143), none, .lenV (.t 142)⟩,
  ⟨(some 144), none, .bin .lss 3 (.t 143) (.c (.int .i64 1))⟩]
@[simp] def c_law8_PlanAgain_r18 : List Ir := [⟨(some 10), none, .mov (.c (.bool false))⟩]
@[simp] def c_law8_PlanAgain_r19 : List Ir := [⟨(some 145), none, .mov (.t 3)⟩,
  ⟨(some 146), none, .ii .u64 (.t 145)⟩,
  ⟨(some 147), none, .mov (.t 27)⟩,
  ⟨(some 148), none, .lenV (.t 147)⟩,
  ⟨(some 149), none, .ii .u64 (.t 148)⟩,
  ⟨(some 150), none, .bin .rem 55 (.t 146) (.t 149)⟩,
  ⟨(some 151), none, .ii .i64 (.t 150)⟩,
  ⟨(some 30), none, .mov (.t 151)⟩]
@[simp] def c_law8_PlanAgain_r20 : List Ir := [⟨(some 153), none, .ldn 2 (.t 25)⟩,
  ⟨(some 154), none, .mov (.t 27)⟩,
  ⟨(some 155), none, .mov (.t 30)⟩,
  ⟨(some 156), none, .slv 3 (.t 154) none (some (.t 155)) none⟩,
  ⟨(some 31), none, .new [(.slice none 0 0), (.slice none 0 0)]⟩,
  ⟨(some 157), none, .call f_law8_done [(.t 153), (.t 156)]⟩,
  ⟨(some 152), none, .mov (.t 157)⟩,
  ⟨(some 158), none, .ext 0 (.t 152)⟩,
  ⟨(some 159), none, .ext 1 (.t 152)⟩,
  ⟨none, none, .st 2 (.t 31) (.t 158)⟩,
  ⟨(some 32), none, .mov (.t 159)⟩]
@[simp] def c_law8_PlanAgain_r21 : List Ir := [⟨(some 161), none, .ldn 2 (.t 31)⟩,
  ⟨(some 162), none, .mov (.t 4)⟩,
  ⟨(some 163), none, .call f_ref1_Crash [(.t 161), (.t 162), (.c (.int .i64 (-1))), (.c (.int .i64 0))]⟩,
  ⟨(some 160), none, .mov (.t 163)⟩,
  ⟨(some 164), none, .ext 0 (.t 160)⟩,
  ⟨(some 165), none, .ext 1 (.t 160)⟩,
  ⟨(some 33), none, .new [(.slice none 0 0), (.slice none 0 0)]⟩,
  ⟨none, none, .st 2 (.t 33) (.t 164)⟩,
  ⟨(some 34), none, .mov (.t 165)⟩]
@[simp] def c_law8_PlanAgain_r22 : List Ir := [⟨(some 167), none, .ldn 2 (.t 33)⟩,
  ⟨(some 168), none, .call f_ref1_Open [(.t 167)]⟩,
  ⟨(some 166), none, .mov (.t 168)⟩,
  ⟨(some 169), none, .ext 0 (.t 166)⟩,
  ⟨(some 170), none, .ext 1 (.t 166)⟩,
  ⟨(some 35), none, .new [(.int .i64 0), (.int .i64 0), (.int .i64 0), (.int .i64 0), (.slice none 0 0)]⟩,
  ⟨none, none, .st 5 (.t 35) (.t 169)⟩,
  ⟨(some 36), none, .mov (.t 170)⟩]
@[simp] def c_law8_PlanAgain_r23 : List Ir := [⟨(some 171), none, .mov (.t 32)⟩,
  ⟨(some 172), none, .mov (.t 171)⟩,
  ⟨(some 173), (some (172, true)), .mov (.t 36)⟩,
  ⟨(some 174), (some (172, true)), .bin .eql 3 (.t 173) (.c (.int .i64 0))⟩,
  ⟨(some 175), none, .pick (.t 172) (.t 174) (.c (.bool false))⟩,
  ⟨(some 176), none, .mov (.t 175)⟩,
  ⟨(some 177), (some (176, true)), .fadr 4 (.t 35)⟩,
  ⟨(some 178), (some (176, true)), .ld (.t 177)⟩,
  ⟨(some 179), (some (176, true)), .fadr 4 (.t 23)⟩,
  ⟨(some 180), (some (176, true)), .ld (.t 179)⟩,
  ⟨(some 181), (some (176, true)), .call f_law0_SameTexts [(.t 178), (.t 180)]⟩,
  ⟨(some 182), (some (176, true)), .mov (.t 181)⟩,
  ⟨(some 183), (some (182, false)), .fadr 4 (.t 35)⟩,
  ⟨(some 184), (some (182, false)), .ld (.t 183)⟩,
  ⟨(some 185), (some (182, false)), .fadr 4 (.t 28)⟩,
  ⟨(some 186), (some (182, false)), .ld (.t 185)⟩,
  ⟨(some 187), (some (182, false)), .call f_law0_SameTexts [(.t 184), (.t 186)]⟩,
  ⟨(some 188), (some (176, true)), .pick (.t 182) (.c (.bool true)) (.t 187)⟩,
  ⟨(some 189), none, .pick (.t 176) (.t 188) (.c (.bool false))⟩,
  ⟨(some 10), none, .mov (.t 189)⟩]
@[simp] def c_law8_PlanAgain : IFn := ⟨(.seq (.reg c_law8_PlanAgain_r0) (.seq (.seq (.reg c_law8_PlanAgain_r1) (.cond (.t 38) (.seq (.reg c_law8_PlanAgain_r2) .ret) .skip)) (.seq (.seq (.reg c_law8_PlanAgain_r3) (.cond (.t 56) (.seq (.reg c_law8_PlanAgain_r4) .ret) .skip)) (.seq (.reg c_law8_PlanAgain_r5) (.seq (.reg c_law8_PlanAgain_r6) (.seq (.seq (.reg c_law8_PlanAgain_r7) (.cond (.t 81) (.seq (.reg c_law8_PlanAgain_r8) .ret) .skip)) (.seq (.regd c_law8_PlanAgain_r9 []) (.seq (.reg c_law8_PlanAgain_r10) (.seq (.reg c_law8_PlanAgain_r11) (.seq (.reg c_law8_PlanAgain_r12) (.seq (.reg c_law8_PlanAgain_r13) (.seq (.reg c_law8_PlanAgain_r14) (.seq (.seq (.reg c_law8_PlanAgain_r15) (.cond (.t 141) (.seq (.reg c_law8_PlanAgain_r16) .ret) .skip)) (.seq (.seq (.reg c_law8_PlanAgain_r17) (.cond (.t 144) (.seq (.reg c_law8_PlanAgain_r18) .ret) .skip)) (.seq (.reg c_law8_PlanAgain_r19) (.seq (.regd c_law8_PlanAgain_r20 []) (.seq (.reg c_law8_PlanAgain_r21) (.seq (.reg c_law8_PlanAgain_r22) (.seq (.reg c_law8_PlanAgain_r23) .ret))))))))))))))))))), 190, [.tmp 10]⟩

theorem fc_law8_PlanAgain : fnAt Try.prog f_law8_PlanAgain = some c_law8_PlanAgain := by kernel_rfl
@[simp] def c_law8_PlanRow_r0 : List Ir := [⟨(some 4), none, .mov (.c (.bool false))⟩]
@[simp] def c_law8_PlanRow_r1 : List Ir := [⟨(some 16), none, .call f_law8_awake []⟩,
  ⟨(some 17), none, .un .not (.t 16)⟩]
@[simp] def c_law8_PlanRow_r2 : List Ir := [⟨(some 4), none, .mov (.c (.bool false))⟩]
@[simp] def c_law8_PlanRow_r3 : List Ir := [⟨(some 18), none, .mov (.t 0)⟩,
  ⟨(some 19), none, .call f_ref1_ImagesMay [(.t 18)]⟩,
  ⟨(some 20), none, .un .not (.t 19)⟩]
@[simp] def c_law8_PlanRow_r4 : List Ir := [⟨(some 4), none, .mov (.c (.bool true))⟩]
@[simp] def c_law8_PlanRow_r5 : List Ir := [⟨(some 22), none, .call f_ref1_NewDisk []⟩,
  ⟨(some 23), none, .call f_plan_Format []⟩,
  ⟨(some 24), none, .call f_law8_done [(.t 22), (.t 23)]⟩,
  ⟨(some 21), none, .mov (.t 24)⟩,
  ⟨(some 25), none, .ext 0 (.t 21)⟩,
  ⟨(some 26), none, .ext 1 (.t 21)⟩,
  ⟨(some 5), none, .new [(.slice none 0 0), (.slice none 0 0)]⟩,
  ⟨none, none, .st 2 (.t 5) (.t 25)⟩,
  ⟨(some 6), none, .mov (.t 26)⟩]
@[simp] def c_law8_PlanRow_r6 : List Ir := [⟨(some 27), none, .call f_ref1_Blank []⟩,
  ⟨(some 7), none, .new [(.int .i64 0), (.int .i64 0), (.int .i64 0), (.int .i64 0), (.slice none 0 0)]⟩,
  ⟨none, none, .st 5 (.t 7) (.t 27)⟩]
@[simp] def c_law8_PlanRow_r7 : List Ir := [⟨(some 8), none, .mov (.c (.int .i64 0))⟩]
@[simp] def c_law8_PlanRow_r8 : List Ir := [⟨(some 28), none, .mov (.t 8)⟩,
  ⟨(some 29), none, .mov (.t 1)⟩,
  ⟨(some 30), none, .bin .and 3 (.t 29) (.c (.int .i64 15))⟩,
  ⟨(some 31), none, .bin .lss 3 (.t 28) (.t 30)⟩,
  ⟨(some 32), none, .mov (.t 31)⟩,
  ⟨(some 33), (some (32, true)), .mov (.t 6)⟩,
  ⟨(some 34), none, .pick (.t 32) (.t 33) (.c (.bool false))⟩]
@[simp] def c_law8_PlanRow_r9 : List Ir := [⟨(some 38), none, .ldn 5 (.t 7)⟩,
  ⟨(some 39), none, .mov (.t 0)⟩,
  ⟨(some 40), none, .call f_plan_Commit [(.t 38), (.t 39)]⟩,
  ⟨(some 37), none, .mov (.t 40)⟩,
  ⟨(some 41), none, .ext 0 (.t 37)⟩,
  ⟨(some 42), none, .ext 1 (.t 37)⟩,
  ⟨(some 43), none, .ext 2 (.t 37)⟩,
  ⟨(some 10), none, .new [(.int .i64 0), (.int .i64 0), (.int .i64 0), (.int .i64 0), (.slice none 0 0)]⟩,
  ⟨(some 9), none, .mov (.t 41)⟩,
  ⟨none, none, .st 5 (.t 10) (.t 42)⟩,
  ⟨(some 11), none, .mov (.t 43)⟩]
@[simp] def c_law8_PlanRow_r10 : List Ir := [⟨(some 45), none, .ldn 2 (.t 5)⟩,
  ⟨(some 46), none, .mov (.t 9)⟩,
  ⟨(some 47), none, .call f_law8_done [(.t 45), (.t 46)]⟩,
  ⟨(some 44), none, .mov (.t 47)⟩,
  ⟨(some 48), none, .ext 0 (.t 44)⟩,
  ⟨(some 49), none, .ext 1 (.t 44)⟩,
  ⟨(some 12), none, .new [(.slice none 0 0), (.slice none 0 0)]⟩,
  ⟨none, none, .st 2 (.t 12) (.t 48)⟩,
  ⟨(some 13), none, .mov (.t 49)⟩]
@[simp] def c_law8_PlanRow_r11 : List Ir := [⟨(some 51), none, .ldn 2 (.t 12)⟩,
  ⟨(some 52), none, .call f_ref1_Open [(.t 51)]⟩,
  ⟨(some 50), none, .mov (.t 52)⟩,
  ⟨(some 53), none, .ext 0 (.t 50)⟩,
  ⟨(some 54), none, .ext 1 (.t 50)⟩,
  ⟨(some 14), none, .new [(.int .i64 0), (.int .i64 0), (.int .i64 0), (.int .i64 0), (.slice none 0 0)]⟩,
  ⟨none, none, .st 5 (.t 14) (.t 53)⟩,
  ⟨(some 15), none, .mov (.t 54)⟩]
@[simp] def c_law8_PlanRow_r12 : List Ir := [⟨(some 55), none, .mov (.t 11)⟩,
  ⟨(some 56), none, .call f_law0_Num [(.t 55)]⟩,
  ⟨(some 57), none, .bin .neq 3 (.t 56) (.c (.int .i64 0))⟩,
  ⟨(some 58), none, .mov (.t 57)⟩,
  ⟨(some 59), (some (58, false)), .mov (.t 15)⟩,
  ⟨(some 60), (some (58, false)), .bin .neq 3 (.t 59) (.c (.int .i64 0))⟩,
  ⟨(some 61), none, .pick (.t 58) (.c (.bool true)) (.t 60)⟩,
  ⟨(some 62), none, .mov (.t 61)⟩,
  ⟨(some 63), (some (62, false)), .mov (.t 13)⟩,
  ⟨(some 64), (some (62, false)), .un .not (.t 63)⟩,
  ⟨(some 65), none, .pick (.t 62) (.c (.bool true)) (.t 64)⟩,
  ⟨(some 66), none, .mov (.t 65)⟩,
  ⟨(some 67), (some (66, false)), .ldn 5 (.t 14)⟩,
  ⟨(some 68), (some (66, false)), .ldn 5 (.t 10)⟩,
  ⟨(some 69), (some (66, false)), .call f_law0_SamePager [(.t 67), (.t 68)]⟩,
  ⟨(some 70), (some (66, false)), .un .not (.t 69)⟩,
  ⟨(some 71), none, .pick (.t 66) (.c (.bool true)) (.t 70)⟩,
  ⟨(some 72), none, .mov (.t 71)⟩,
  ⟨(some 73), (some (72, false)), .fadr 3 (.t 10)⟩,
  ⟨(some 74), (some (72, false)), .ld (.t 73)⟩,
  ⟨(some 75), (some (72, false)), .bin .gtr 3 (.t 74) (.c (.int .i64 200))⟩,
  ⟨(some 76), none, .pick (.t 72) (.c (.bool true)) (.t 75)⟩]
@[simp] def c_law8_PlanRow_r13 : List Ir := [⟨(some 4), none, .mov (.c (.bool false))⟩]
@[simp] def c_law8_PlanRow_r14 : List Ir := [⟨(some 77), none, .ldn 2 (.t 12)⟩,
  ⟨none, none, .st 2 (.t 5) (.t 77)⟩]
@[simp] def c_law8_PlanRow_r15 : List Ir := [⟨(some 78), none, .ldn 5 (.t 10)⟩,
  ⟨none, none, .st 5 (.t 7) (.t 78)⟩]
@[simp] def c_law8_PlanRow_r16 : List Ir := [⟨(some 35), none, .mov (.t 8)⟩,
  ⟨(some 36), none, .bin .add 3 (.t 35) (.c (.int .i64 1))⟩,
  ⟨(some 8), none, .mov (.t 36)⟩]
def c_law8_PlanRow_l17 : IC := (.seq (.seq (.reg c_law8_PlanRow_r8) (.cond (.t 34) .skip (.exit 0))) (.seq (.block 1 (.seq (.reg c_law8_PlanRow_r9) (.seq (.reg c_law8_PlanRow_r10) (.seq (.reg c_law8_PlanRow_r11) (.seq (.seq (.reg c_law8_PlanRow_r12) (.cond (.t 76) (.seq (.reg c_law8_PlanRow_r13) .ret) .skip)) (.seq (.reg c_law8_PlanRow_r14) (.reg c_law8_PlanRow_r15))))))) (.reg c_law8_PlanRow_r16)))
@[simp] def c_law8_PlanRow_r18 : List Ir := [⟨(some 79), none, .mov (.t 6)⟩,
  ⟨(some 4), none, .mov (.t 79)⟩]
@[simp] def c_law8_PlanRow : IFn := ⟨(.seq (.reg c_law8_PlanRow_r0) (.seq (.seq (.reg c_law8_PlanRow_r1) (.cond (.t 17) (.seq (.reg c_law8_PlanRow_r2) .ret) .skip)) (.seq (.seq (.reg c_law8_PlanRow_r3) (.cond (.t 20) (.seq (.reg c_law8_PlanRow_r4) .ret) .skip)) (.seq (.reg c_law8_PlanRow_r5) (.seq (.reg c_law8_PlanRow_r6) (.seq (.seq (.reg c_law8_PlanRow_r7) (.block 0 (.loop c_law8_PlanRow_l17))) (.seq (.reg c_law8_PlanRow_r18) .ret))))))), 80, [.tmp 4]⟩

theorem fc_law8_PlanRow : fnAt Try.prog f_law8_PlanRow = some c_law8_PlanRow := by kernel_rfl
@[simp] def c_law7_Opens_r0 : List Ir := [⟨(some 1), none, .box 2 (.t 0)⟩,
  ⟨(some 2), none, .mov (.c (.bool false))⟩]
@[simp] def c_law7_Opens_r1 : List Ir := [⟨(some 8), none, .ldn 2 (.t 1)⟩,
  ⟨(some 9), none, .call f_law0_CopyDisk [(.t 8)]⟩,
  ⟨(some 3), none, .new [(.slice none 0 0), (.slice none 0 0)]⟩,
  ⟨none, none, .st 2 (.t 3) (.t 9)⟩]
@[simp] def c_law7_Opens_r2 : List Ir := [⟨(some 11), none, .ldn 2 (.t 3)⟩,
  ⟨(some 12), none, .call f_open_Open [(.t 11)]⟩,
  ⟨(some 10), none, .mov (.t 12)⟩,
  ⟨(some 13), none, .ext 0 (.t 10)⟩,
  ⟨(some 14), none, .ext 1 (.t 10)⟩,
  ⟨(some 4), none, .new [(.int .i64 0), (.int .i64 0), (.int .i64 0), (.int .i64 0), (.slice none 0 0)]⟩,
  ⟨none, none, .st 5 (.t 4) (.t 13)⟩,
  ⟨(some 5), none, .mov (.t 14)⟩]
@[simp] def c_law7_Opens_r3 : List Ir := [⟨(some 16), none, .ldn 2 (.t 1)⟩,
  ⟨(some 17), none, .call f_ref1_Open [(.t 16)]⟩,
  ⟨(some 15), none, .mov (.t 17)⟩,
  ⟨(some 18), none, .ext 0 (.t 15)⟩,
  ⟨(some 19), none, .ext 1 (.t 15)⟩,
  ⟨(some 6), none, .new [(.int .i64 0), (.int .i64 0), (.int .i64 0), (.int .i64 0), (.slice none 0 0)]⟩,
  ⟨none, none, .st 5 (.t 6) (.t 18)⟩,
  ⟨(some 7), none, .mov (.t 19)⟩]
@[simp] def c_law7_Opens_r4 : List Ir := [⟨(some 20), none, .ldn 5 (.t 4)⟩,
  ⟨(some 21), none, .ldn 5 (.t 6)⟩,
  ⟨(some 22), none, .call f_law0_SamePager [(.t 20), (.t 21)]⟩,
  ⟨(some 23), none, .un .not (.t 22)⟩,
  ⟨(some 24), none, .mov (.t 23)⟩,
  ⟨(some 25), (some (24, false)), .mov (.t 5)⟩,
  ⟨(some 26), (some (24, false)), .call f_law0_Num [(.t 25)]⟩,
  ⟨(some 27), (some (24, false)), .mov (.t 7)⟩,
  ⟨(some 28), (some (24, false)), .bin .neq 3 (.t 26) (.t 27)⟩,
  ⟨(some 29), none, .pick (.t 24) (.c (.bool true)) (.t 28)⟩]
@[simp] def c_law7_Opens_r5 : List Ir := [⟨(some 2), none, .mov (.c (.bool false))⟩]
@[simp] def c_law7_Opens_r6 : List Ir := [⟨(some 30), none, .ldn 5 (.t 4)⟩,
  ⟨(some 31), none, .call f_law0_SpoilPager [(.t 30)]⟩]
@[simp] def c_law7_Opens_r7 : List Ir := [⟨(some 32), none, .ldn 2 (.t 3)⟩,
  ⟨(some 33), none, .ldn 2 (.t 1)⟩,
  ⟨(some 34), none, .call f_law0_SameDisk [(.t 32), (.t 33)]⟩,
  ⟨(some 35), none, .mov (.t 34)⟩,
  ⟨(some 36), (some (35, true)), .call f_open_Blank []⟩,
  ⟨(some 37), (some (35, true)), .call f_ref1_Blank []⟩,
  ⟨(some 38), (some (35, true)), .call f_law0_SamePager [(.t 36), (.t 37)]⟩,
  ⟨(some 39), none, .pick (.t 35) (.t 38) (.c (.bool false))⟩,
  ⟨(some 40), none, .mov (.t 39)⟩,
  ⟨(some 41), (some (40, true)), .call f_law7_awake []⟩,
  ⟨(some 42), none, .pick (.t 40) (.t 41) (.c (.bool false))⟩,
  ⟨(some 2), none, .mov (.t 42)⟩]
@[simp] def c_law7_Opens : IFn := ⟨(.seq (.reg c_law7_Opens_r0) (.seq (.reg c_law7_Opens_r1) (.seq (.reg c_law7_Opens_r2) (.seq (.reg c_law7_Opens_r3) (.seq (.seq (.reg c_law7_Opens_r4) (.cond (.t 29) (.seq (.reg c_law7_Opens_r5) .ret) .skip)) (.seq (.reg c_law7_Opens_r6) (.seq (.reg c_law7_Opens_r7) .ret))))))), 43, [.tmp 2]⟩

theorem fc_law7_Opens : fnAt Try.prog f_law7_Opens = some c_law7_Opens := by kernel_rfl
@[simp] def c_law7_OpenSame_r0 : List Ir := [⟨(some 1), none, .box 2 (.t 0)⟩,
  ⟨(some 2), none, .mov (.c (.bool false))⟩]
@[simp] def c_law7_OpenSame_r1 : List Ir := [⟨(some 7), none, .call f_law7_awake []⟩,
  ⟨(some 8), none, .un .not (.t 7)⟩]
@[simp] def c_law7_OpenSame_r2 : List Ir := [⟨(some 2), none, .mov (.c (.bool false))⟩]
@[simp] def c_law7_OpenSame_r3 : List Ir := [⟨(some 10), none, .ldn 2 (.t 1)⟩,
  ⟨(some 11), none, .call f_open_Open [(.t 10)]⟩,
  ⟨(some 9), none, .mov (.t 11)⟩,
  ⟨(some 12), none, .ext 0 (.t 9)⟩,
  ⟨(some 13), none, .ext 1 (.t 9)⟩,
  ⟨(some 3), none, .new [(.int .i64 0), (.int .i64 0), (.int .i64 0), (.int .i64 0), (.slice none 0 0)]⟩,
  ⟨none, none, .st 5 (.t 3) (.t 12)⟩,
  ⟨(some 4), none, .mov (.t 13)⟩]
@[simp] def c_law7_OpenSame_r4 : List Ir := [⟨(some 14), none, .mov (.t 4)⟩,
  ⟨(some 15), none, .call f_law0_Num [(.t 14)]⟩,
  ⟨(some 16), none, .bin .neq 3 (.t 15) (.c (.int .i64 0))⟩]
@[simp] def c_law7_OpenSame_r5 : List Ir := [⟨(some 17), none, .ldn 5 (.t 3)⟩,
  ⟨(some 18), none, .build [(.int .i64 0), (.int .i64 0), (.int .i64 0), (.int .i64 0), (.slice none 0 0)] []⟩,
  ⟨(some 19), none, .call f_law0_SamePager [(.t 17), (.t 18)]⟩,
  ⟨(some 2), none, .mov (.t 19)⟩]
@[simp] def c_law7_OpenSame_r6 : List Ir := [⟨(some 21), none, .ldn 2 (.t 1)⟩,
  ⟨(some 22), none, .build [(.bool false), (.int .i64 0), (.string ⟨#[]⟩)] [(0, (1, (.c (.bool true))))]⟩,
  ⟨(some 23), none, .mkrow 3 1 [(.bool false), (.int .i64 0), (.string ⟨#[]⟩)] [(0, (3, (.t 22)))]⟩,
  ⟨(some 24), none, .call f_law7_done [(.t 21), (.t 23)]⟩,
  ⟨(some 25), none, .call f_open_Open [(.t 24)]⟩,
  ⟨(some 20), none, .mov (.t 25)⟩,
  ⟨(some 26), none, .ext 0 (.t 20)⟩,
  ⟨(some 27), none, .ext 1 (.t 20)⟩,
  ⟨(some 5), none, .new [(.int .i64 0), (.int .i64 0), (.int .i64 0), (.int .i64 0), (.slice none 0 0)]⟩,
  ⟨none, none, .st 5 (.t 5) (.t 26)⟩,
  ⟨(some 6), none, .mov (.t 27)⟩]
@[simp] def c_law7_OpenSame_r7 : List Ir := [⟨(some 28), none, .mov (.t 6)⟩,
  ⟨(some 29), none, .call f_law0_Num [(.t 28)]⟩,
  ⟨(some 30), none, .bin .eql 3 (.t 29) (.c (.int .i64 0))⟩,
  ⟨(some 31), none, .mov (.t 30)⟩,
  ⟨(some 32), (some (31, true)), .ldn 5 (.t 3)⟩,
  ⟨(some 33), (some (31, true)), .ldn 5 (.t 5)⟩,
  ⟨(some 34), (some (31, true)), .call f_law0_SamePager [(.t 32), (.t 33)]⟩,
  ⟨(some 35), none, .pick (.t 31) (.t 34) (.c (.bool false))⟩,
  ⟨(some 36), none, .mov (.t 35)⟩,
  ⟨(some 37), (some (36, true)), .fadr 2 (.t 3)⟩,
  ⟨(some 38), (some (36, true)), .ld (.t 37)⟩,
  ⟨(some 39), (some (36, true)), .bin .gtr 3 (.t 38) (.c (.int .i64 2147483647))⟩,
  ⟨(some 40), (some (36, true)), .mov (.t 39)⟩,
  ⟨(some 41), (some (40, false)), .ldn 5 (.t 3)⟩,
  ⟨(some 42), (some (40, false)), .call f_ref1_PagerMay [(.t 41)]⟩,
  ⟨(some 43), (some (36, true)), .pick (.t 40) (.c (.bool true)) (.t 42)⟩,
  ⟨(some 44), none, .pick (.t 36) (.t 43) (.c (.bool false))⟩,
  ⟨(some 2), none, .mov (.t 44)⟩]
@[simp] def c_law7_OpenSame : IFn := ⟨(.seq (.reg c_law7_OpenSame_r0) (.seq (.seq (.reg c_law7_OpenSame_r1) (.cond (.t 8) (.seq (.reg c_law7_OpenSame_r2) .ret) .skip)) (.seq (.reg c_law7_OpenSame_r3) (.seq (.seq (.reg c_law7_OpenSame_r4) (.cond (.t 16) (.seq (.reg c_law7_OpenSame_r5) .ret) .skip)) (.seq (.reg c_law7_OpenSame_r6) (.seq (.reg c_law7_OpenSame_r7) .ret)))))), 45, [.tmp 2]⟩

theorem fc_law7_OpenSame : fnAt Try.prog f_law7_OpenSame = some c_law7_OpenSame := by kernel_rfl
@[simp] def c_law7_OpenRows_r0 : List Ir := [⟨(some 6), none, .mov (.c (.bool false))⟩]
@[simp] def c_law7_OpenRows_r1 : List Ir := [⟨(some 22), none, .call f_law7_awake []⟩,
  ⟨(some 23), none, .un .not (.t 22)⟩]
@[simp] def c_law7_OpenRows_r2 : List Ir := [⟨(some 6), none, .mov (.c (.bool false))⟩]
@[simp] def c_law7_OpenRows_r3 : List Ir := [⟨(some 24), none, .mov (.t 0)⟩,
  ⟨(some 25), none, .call f_ref1_ImagesMay [(.t 24)]⟩,
  ⟨(some 26), none, .un .not (.t 25)⟩,
  ⟨(some 27), none, .mov (.t 26)⟩,
  ⟨(some 28), (some (27, false)), .mov (.t 1)⟩,
  ⟨(some 29), (some (27, false)), .call f_ref1_ImagesMay [(.t 28)]⟩,
  ⟨(some 30), (some (27, false)), .un .not (.t 29)⟩,
  ⟨(some 31), none, .pick (.t 27) (.c (.bool true)) (.t 30)⟩]
@[simp] def c_law7_OpenRows_r4 : List Ir := [⟨(some 6), none, .mov (.c (.bool true))⟩]
@[simp] def c_law7_OpenRows_r5 : List Ir := [⟨(some 32), none, .call f_ref1_NewDisk []⟩,
  ⟨(some 33), none, .call f_ref1_Format []⟩,
  ⟨(some 34), none, .call f_law7_done [(.t 32), (.t 33)]⟩,
  ⟨(some 7), none, .new [(.slice none 0 0), (.slice none 0 0)]⟩,
  ⟨none, none, .st 2 (.t 7) (.t 34)⟩]
@[simp] def c_law7_OpenRows_r6 : List Ir := [⟨(some 35), none, .call f_ref1_Blank []⟩,
  ⟨(some 8), none, .new [(.int .i64 0), (.int .i64 0), (.int .i64 0), (.int .i64 0), (.slice none 0 0)]⟩,
  ⟨none, none, .st 5 (.t 8) (.t 35)⟩]
@[simp] def c_law7_OpenRows_r7 : List Ir := [⟨(some 37), none, .ldn 5 (.t 8)⟩,
  ⟨(some 38), none, .mov (.t 0)⟩,
  ⟨(some 39), none, .call f_ref1_Commit [(.t 37), (.t 38)]⟩,
  ⟨(some 36), none, .mov (.t 39)⟩,
  ⟨(some 40), none, .ext 0 (.t 36)⟩,
  ⟨(some 41), none, .ext 1 (.t 36)⟩,
  ⟨(some 42), none, .ext 2 (.t 36)⟩,
  ⟨(some 9), none, .mov (.t 40)⟩,
  ⟨none, none, .st 5 (.t 8) (.t 41)⟩,
  ⟨(some 10), none, .mov (.t 42)⟩]
@[simp] def c_law7_OpenRows_r8 : List Ir := [⟨(some 43), none, .ldn 2 (.t 7)⟩,
  ⟨(some 44), none, .mov (.t 9)⟩,
  ⟨(some 45), none, .call f_law7_done [(.t 43), (.t 44)]⟩,
  ⟨none, none, .st 2 (.t 7) (.t 45)⟩]
@[simp] def c_law7_OpenRows_r9 : List Ir := [⟨(some 46), none, .mov (.t 2)⟩]
@[simp] def c_law7_OpenRows_r10 : List Ir := [⟨(some 48), none, .ldn 5 (.t 8)⟩,
  ⟨(some 49), none, .call f_ref1_Fresh [(.t 48)]⟩,
  ⟨(some 47), none, .mov (.t 49)⟩,
  ⟨(some 50), none, .ext 0 (.t 47)⟩,
  ⟨(some 51), none, .ext 1 (.t 47)⟩,
  ⟨(some 52), none, .ext 2 (.t 47)⟩,
  ⟨(some 12), none, .new [(.int .i64 0), (.int .i64 0), (.int .i64 0), (.int .i64 0), (.slice none 0 0)]⟩,
  ⟨(some 11), none, .mov (.t 50)⟩,
  ⟨none, none, .st 5 (.t 12) (.t 51)⟩,
  ⟨(some 13), none, .mov (.t 52)⟩]
@[simp] def c_law7_OpenRows_r11 : List Ir := [⟨(some 53), none, .ldn 2 (.t 7)⟩,
  ⟨(some 54), none, .mov (.t 11)⟩,
  ⟨(some 55), none, .call f_law7_done [(.t 53), (.t 54)]⟩,
  ⟨none, none, .st 2 (.t 7) (.t 55)⟩]
@[simp] def c_law7_OpenRows_r12 : List Ir := [⟨(some 56), none, .ldn 5 (.t 12)⟩,
  ⟨none, none, .st 5 (.t 8) (.t 56)⟩]
@[simp] def c_law7_OpenRows_r13 : List Ir := [⟨(some 58), none, .ldn 5 (.t 8)⟩,
  ⟨(some 59), none, .mov (.t 1)⟩,
  ⟨(some 60), none, .call f_ref1_Commit [(.t 58), (.t 59)]⟩,
  ⟨(some 57), none, .mov (.t 60)⟩,
  ⟨(some 61), none, .ext 0 (.t 57)⟩,
  ⟨(some 62), none, .ext 1 (.t 57)⟩,
  ⟨(some 63), none, .ext 2 (.t 57)⟩,
  ⟨(some 14), none, .mov (.t 61)⟩,
  ⟨none, none, .st 5 (.t 8) (.t 62)⟩,
  ⟨(some 15), none, .mov (.t 63)⟩]
@[simp] def c_law7_OpenRows_r14 : List Ir := [⟨(some 64), none, .ldn 2 (.t 7)⟩,
  ⟨(some 65), none, .mov (.t 14)⟩,
  ⟨(some 66), none, .call f_law7_done [(.t 64), (.t 65)]⟩,
  ⟨none, none, .st 2 (.t 7) (.t 66)⟩]
@[simp] def c_law7_OpenRows_r15 : List Ir := [⟨(some 68), none, .ldn 2 (.t 7)⟩,
  ⟨(some 69), none, .call f_open_Open [(.t 68)]⟩,
  ⟨(some 67), none, .mov (.t 69)⟩,
  ⟨(some 70), none, .ext 0 (.t 67)⟩,
  ⟨(some 71), none, .ext 1 (.t 67)⟩,
  ⟨(some 16), none, .new [(.int .i64 0), (.int .i64 0), (.int .i64 0), (.int .i64 0), (.slice none 0 0)]⟩,
  ⟨none, none, .st 5 (.t 16) (.t 70)⟩,
  ⟨(some 17), none, .mov (.t 71)⟩]
@[simp] def c_law7_OpenRows_r16 : List Ir := [⟨(some 72), none, .mov (.t 17)⟩,
  ⟨(some 73), none, .call f_law0_Num [(.t 72)]⟩,
  ⟨(some 74), none, .bin .neq 3 (.t 73) (.c (.int .i64 0))⟩,
  ⟨(some 75), none, .mov (.t 74)⟩,
  ⟨(some 76), (some (75, false)), .fadr 4 (.t 16)⟩,
  ⟨(some 77), (some (75, false)), .ld (.t 76)⟩,
  ⟨(some 78), (some (75, false)), .lenV (.t 77)⟩,
  ⟨(some 79), (some (75, false)), .bin .neq 3 (.t 78) (.c (.int .i64 48))⟩,
  ⟨(some 80), none, .pick (.t 75) (.c (.bool true)) (.t 79)⟩]
@[simp] def c_law7_OpenRows_r17 : List Ir := [⟨(some 6), none, .mov (.c (.bool false))⟩]
@[simp] def c_law7_OpenRows_r18 : List Ir := [⟨(some 18), none, .new [(.string ⟨#[]⟩), (.string ⟨#[]⟩), (.string ⟨#[]⟩), (.string ⟨#[]⟩), (.string ⟨#[]⟩), (.string ⟨#[]⟩), (.string ⟨#[]⟩), (.string ⟨#[]⟩), (.string ⟨#[]⟩), (.string ⟨#[]⟩), (.string ⟨#[]⟩), (.string ⟨#[]⟩), (.string ⟨#[]⟩), (.string ⟨#[]⟩), (.string ⟨#[]⟩), (.string ⟨#[]⟩), (.string ⟨#[]⟩), (.string ⟨#[]⟩), (.string ⟨#[]⟩), (.string ⟨#[]⟩), (.string ⟨#[]⟩), (.string ⟨#[]⟩), (.string ⟨#[]⟩), (.string ⟨#[]⟩), (.string ⟨#[]⟩), (.string ⟨#[]⟩), (.string ⟨#[]⟩), (.string ⟨#[]⟩), (.string ⟨#[]⟩), (.string ⟨#[]⟩), (.string ⟨#[]⟩), (.string ⟨#[]⟩), (.string ⟨#[]⟩), (.string ⟨#[]⟩), (.string ⟨#[]⟩), (.string ⟨#[]⟩), (.string ⟨#[]⟩), (.string ⟨#[]⟩), (.string ⟨#[]⟩), (.string ⟨#[]⟩), (.string ⟨#[]⟩), (.string ⟨#[]⟩), (.string ⟨#[]⟩), (.string ⟨#[]⟩), (.string ⟨#[]⟩), (.string ⟨#[]⟩), (.string ⟨#[]⟩), (.string ⟨#[]⟩)]⟩]
@[simp] def c_law7_OpenRows_r19 : List Ir := [⟨(some 19), none, .mov (.c (.int .i64 0))⟩]
@[simp] def c_law7_OpenRows_r20 : List Ir := [⟨(some 81), none, .mov (.t 19)⟩,
  ⟨(some 82), none, .mov (.t 0)⟩,
  ⟨(some 83), none, .lenV (.t 82)⟩,
  ⟨(some 84), none, .bin .lss 3 (.t 81) (.t 83)⟩]
@[simp] def c_law7_OpenRows_r21 : List Ir := [⟨(some 87), none, .mov (.t 0)⟩,
  ⟨(some 88), none, .mov (.t 19)⟩,
  ⟨(some 89), none, .iadrS 2 (.t 87) (.t 88)⟩,
  ⟨(some 90), none, .fadr 0 (.t 89)⟩,
  ⟨(some 91), none, .ld (.t 90)⟩,
  ⟨(some 92), none, .mov (.t 0)⟩,
  ⟨(some 93), none, .mov (.t 19)⟩,
  ⟨(some 94), none, .iadrS 2 (.t 92) (.t 93)⟩,
  ⟨(some 95), none, .fadr 1 (.t 94)⟩,
  ⟨(some 96), none, .ld (.t 95)⟩,
  ⟨(some 97), none, .iadrA 48 1 (.t 18) (.t 91)⟩,
  ⟨none, none, .st 1 (.t 97) (.t 96)⟩]
@[simp] def c_law7_OpenRows_r22 : List Ir := [⟨(some 85), none, .mov (.t 19)⟩,
  ⟨(some 86), none, .bin .add 3 (.t 85) (.c (.int .i64 1))⟩,
  ⟨(some 19), none, .mov (.t 86)⟩]
def c_law7_OpenRows_l23 : IC := (.seq (.seq (.reg c_law7_OpenRows_r20) (.cond (.t 84) .skip (.exit 0))) (.seq (.block 1 (.regd c_law7_OpenRows_r21 [])) (.reg c_law7_OpenRows_r22)))
@[simp] def c_law7_OpenRows_r24 : List Ir := [⟨(some 20), none, .mov (.c (.int .i64 0))⟩]
@[simp] def c_law7_OpenRows_r25 : List Ir := [⟨(some 98), none, .mov (.t 20)⟩,
  ⟨(some 99), none, .mov (.t 1)⟩,
  ⟨(some 100), none, .lenV (.t 99)⟩,
  ⟨(some 101), none, .bin .lss 3 (.t 98) (.t 100)⟩]
@[simp] def c_law7_OpenRows_r26 : List Ir := [⟨(some 104), none, .mov (.t 1)⟩,
  ⟨(some 105), none, .mov (.t 20)⟩,
  ⟨(some 106), none, .iadrS 2 (.t 104) (.t 105)⟩,
  ⟨(some 107), none, .fadr 0 (.t 106)⟩,
  ⟨(some 108), none, .ld (.t 107)⟩,
  ⟨(some 109), none, .mov (.t 1)⟩,
  ⟨(some 110), none, .mov (.t 20)⟩,
  ⟨(some 111), none, .iadrS 2 (.t 109) (.t 110)⟩,
  ⟨(some 112), none, .fadr 1 (.t 111)⟩,
  ⟨(some 113), none, .ld (.t 112)⟩,
  ⟨(some 114), none, .iadrA 48 1 (.t 18) (.t 108)⟩,
  ⟨none, none, .st 1 (.t 114) (.t 113)⟩]
@[simp] def c_law7_OpenRows_r27 : List Ir := [⟨(some 102), none, .mov (.t 20)⟩,
  ⟨(some 103), none, .bin .add 3 (.t 102) (.c (.int .i64 1))⟩,
  ⟨(some 20), none, .mov (.t 103)⟩]
def c_law7_OpenRows_l28 : IC := (.seq (.seq (.reg c_law7_OpenRows_r25) (.cond (.t 101) .skip (.exit 2))) (.seq (.block 3 (.regd c_law7_OpenRows_r26 [])) (.reg c_law7_OpenRows_r27)))
@[simp] def c_law7_OpenRows_r29 : List Ir := [⟨(some 21), none, .mov (.c (.int .i64 0))⟩]
@[simp] def c_law7_OpenRows_r30 : List Ir := [⟨(some 115), none, .mov (.t 21)⟩,
  ⟨(some 116), none, .bin .lss 3 (.t 115) (.c (.int .i64 48))⟩]
@[simp] def c_law7_OpenRows_r31 : List Ir := [⟨(some 119), none, .fadr 4 (.t 16)⟩,
  ⟨(some 120), none, .ld (.t 119)⟩,
  ⟨(some 121), none, .mov (.t 21)⟩,
  ⟨(some 122), none, .iadrS 1 (.t 120) (.t 121)⟩,
  ⟨(some 123), none, .ld (.t 122)⟩,
  ⟨(some 124), none, .mov (.t 21)⟩,
  ⟨(some 125), none, .iadrA 48 1 (.t 18) (.t 124)⟩,
  ⟨(some 126), none, .ld (.t 125)⟩,
  ⟨(some 127), none, .bin .neq 9 (.t 123) (.t 126)⟩]
@[simp] def c_law7_OpenRows_r32 : List Ir := [⟨(some 6), none, .mov (.c (.bool false))⟩]
@[simp] def c_law7_OpenRows_r33 : List Ir := [⟨(some 117), none, .mov (.t 21)⟩,
  ⟨(some 118), none, .bin .add 3 (.t 117) (.c (.int .i64 1))⟩,
  ⟨(some 21), none, .mov (.t 118)⟩]
def c_law7_OpenRows_l34 : IC := (.seq (.seq (.reg c_law7_OpenRows_r30) (.cond (.t 116) .skip (.exit 4))) (.seq (.block 5 (.seq (.regd c_law7_OpenRows_r31 []) (.cond (.t 127) (.seq (.reg c_law7_OpenRows_r32) .ret) .skip))) (.reg c_law7_OpenRows_r33)))
@[simp] def c_law7_OpenRows_r35 : List Ir := [⟨(some 128), none, .ldn 5 (.t 16)⟩,
  ⟨(some 129), none, .ldn 5 (.t 8)⟩,
  ⟨(some 130), none, .call f_law0_SamePager [(.t 128), (.t 129)]⟩,
  ⟨(some 6), none, .mov (.t 130)⟩]
@[simp] def c_law7_OpenRows : IFn := ⟨(.seq (.reg c_law7_OpenRows_r0) (.seq (.seq (.reg c_law7_OpenRows_r1) (.cond (.t 23) (.seq (.reg c_law7_OpenRows_r2) .ret) .skip)) (.seq (.seq (.reg c_law7_OpenRows_r3) (.cond (.t 31) (.seq (.reg c_law7_OpenRows_r4) .ret) .skip)) (.seq (.reg c_law7_OpenRows_r5) (.seq (.reg c_law7_OpenRows_r6) (.seq (.reg c_law7_OpenRows_r7) (.seq (.reg c_law7_OpenRows_r8) (.seq (.seq (.reg c_law7_OpenRows_r9) (.cond (.t 46) (.seq (.reg c_law7_OpenRows_r10) (.seq (.reg c_law7_OpenRows_r11) (.reg c_law7_OpenRows_r12))) .skip)) (.seq (.reg c_law7_OpenRows_r13) (.seq (.reg c_law7_OpenRows_r14) (.seq (.reg c_law7_OpenRows_r15) (.seq (.seq (.reg c_law7_OpenRows_r16) (.cond (.t 80) (.seq (.reg c_law7_OpenRows_r17) .ret) .skip)) (.seq (.reg c_law7_OpenRows_r18) (.seq (.seq (.reg c_law7_OpenRows_r19) (.block 0 (.loop c_law7_OpenRows_l23))) (.seq (.seq (.reg c_law7_OpenRows_r24) (.block 2 (.loop c_law7_OpenRows_l28))) (.seq (.seq (.reg c_law7_OpenRows_r29) (.block 4 (.loop c_law7_OpenRows_l34))) (.seq (.reg c_law7_OpenRows_r35) .ret))))))))))))))))), 131, [.tmp 6]⟩

theorem fc_law7_OpenRows : fnAt Try.prog f_law7_OpenRows = some c_law7_OpenRows := by kernel_rfl
@[simp] def c_law7_OpenHead_r0 : List Ir := [⟨(some 4), none, .mov (.c (.bool false))⟩]
@[simp] def c_law7_OpenHead_r1 : List Ir := [⟨(some 21), none, .call f_law7_awake []⟩,
  ⟨(some 22), none, .un .not (.t 21)⟩]
@[simp] def c_law7_OpenHead_r2 : List Ir := [⟨(some 4), none, .mov (.c (.bool false))⟩]
@[simp] def c_law7_OpenHead_r3 : List Ir := [⟨(some 23), none, .mov (.t 0)⟩,
  ⟨(some 24), none, .call f_ref1_ImagesMay [(.t 23)]⟩,
  ⟨(some 25), none, .un .not (.t 24)⟩]
@[simp] def c_law7_OpenHead_r4 : List Ir := [⟨(some 4), none, .mov (.c (.bool true))⟩]
@[simp] def c_law7_OpenHead_r5 : List Ir := [⟨(some 26), none, .call f_ref1_NewDisk []⟩,
  ⟨(some 27), none, .call f_ref1_Format []⟩,
  ⟨(some 28), none, .call f_law7_done [(.t 26), (.t 27)]⟩,
  ⟨(some 5), none, .new [(.slice none 0 0), (.slice none 0 0)]⟩,
  ⟨none, none, .st 2 (.t 5) (.t 28)⟩]
@[simp] def c_law7_OpenHead_r6 : List Ir := [⟨(some 30), none, .call f_ref1_Blank []⟩,
  ⟨(some 31), none, .mov (.t 0)⟩,
  ⟨(some 32), none, .call f_ref1_Commit [(.t 30), (.t 31)]⟩,
  ⟨(some 29), none, .mov (.t 32)⟩,
  ⟨(some 33), none, .ext 0 (.t 29)⟩,
  ⟨(some 34), none, .ext 1 (.t 29)⟩,
  ⟨(some 35), none, .ext 2 (.t 29)⟩,
  ⟨(some 7), none, .new [(.int .i64 0), (.int .i64 0), (.int .i64 0), (.int .i64 0), (.slice none 0 0)]⟩,
  ⟨(some 6), none, .mov (.t 33)⟩,
  ⟨none, none, .st 5 (.t 7) (.t 34)⟩,
  ⟨(some 8), none, .mov (.t 35)⟩]
@[simp] def c_law7_OpenHead_r7 : List Ir := [⟨(some 36), none, .ldn 2 (.t 5)⟩,
  ⟨(some 37), none, .mov (.t 6)⟩,
  ⟨(some 38), none, .call f_law7_done [(.t 36), (.t 37)]⟩,
  ⟨none, none, .st 2 (.t 5) (.t 38)⟩]
@[simp] def c_law7_OpenHead_r8 : List Ir := [⟨(some 40), none, .ldn 5 (.t 7)⟩,
  ⟨(some 41), none, .call f_ref1_Fresh [(.t 40)]⟩,
  ⟨(some 39), none, .mov (.t 41)⟩,
  ⟨(some 42), none, .ext 0 (.t 39)⟩,
  ⟨(some 43), none, .ext 1 (.t 39)⟩,
  ⟨(some 44), none, .ext 2 (.t 39)⟩,
  ⟨(some 9), none, .mov (.t 42)⟩,
  ⟨none, none, .st 5 (.t 7) (.t 43)⟩,
  ⟨(some 10), none, .mov (.t 44)⟩]
@[simp] def c_law7_OpenHead_r9 : List Ir := [⟨(some 45), none, .ldn 2 (.t 5)⟩,
  ⟨(some 46), none, .mov (.t 9)⟩,
  ⟨(some 47), none, .call f_law7_done [(.t 45), (.t 46)]⟩,
  ⟨none, none, .st 2 (.t 5) (.t 47)⟩]
@[simp] def c_law7_OpenHead_r10 : List Ir := [⟨(some 48), none, .fadr 0 (.t 5)⟩,
  ⟨(some 49), none, .ld (.t 48)⟩,
  ⟨(some 50), none, .lenV (.t 49)⟩,
  ⟨(some 51), none, .bin .neq 3 (.t 50) (.c (.int .i64 394))⟩]
@[simp] def c_law7_OpenHead_r11 : List Ir := [⟨(some 4), none, .mov (.c (.bool false))⟩]
@[simp] def c_law7_OpenHead_r12 : List Ir := [⟨(some 52), none, .mks 1 1 [(.int .u8 0)] (.c (.int .i64 64)) (.c (.int .i64 64))⟩,
  ⟨(some 53), none, .b2s (.t 52)⟩,
  ⟨(some 11), none, .mov (.t 53)⟩]
@[simp] def c_law7_OpenHead_r13 : List Ir := [⟨(some 54), none, .mkrow 1 0 [] []⟩,
  ⟨(some 55), none, .fadr 0 (.t 5)⟩,
  ⟨(some 56), none, .ld (.t 55)⟩,
  ⟨(some 57), none, .app 1 16 (.t 54) (.t 56)⟩,
  ⟨(some 58), none, .build [(.slice none 0 0), (.slice none 0 0)] [(0, (1, (.t 57)))]⟩,
  ⟨(some 12), none, .new [(.slice none 0 0), (.slice none 0 0)]⟩,
  ⟨none, none, .st 2 (.t 12) (.t 58)⟩]
@[simp] def c_law7_OpenHead_r14 : List Ir := [⟨(some 59), none, .fadr 0 (.t 12)⟩,
  ⟨(some 60), none, .ld (.t 59)⟩,
  ⟨(some 61), none, .mov (.t 11)⟩,
  ⟨(some 62), none, .iadrS 1 (.t 60) (.c (.int .i64 0))⟩,
  ⟨none, none, .st 1 (.t 62) (.t 61)⟩]
@[simp] def c_law7_OpenHead_r15 : List Ir := [⟨(some 63), none, .mkrow 1 0 [] []⟩,
  ⟨(some 64), none, .fadr 0 (.t 12)⟩,
  ⟨(some 65), none, .ld (.t 64)⟩,
  ⟨(some 66), none, .app 1 16 (.t 63) (.t 65)⟩,
  ⟨(some 67), none, .build [(.slice none 0 0), (.slice none 0 0)] [(0, (1, (.t 66)))]⟩,
  ⟨(some 13), none, .new [(.slice none 0 0), (.slice none 0 0)]⟩,
  ⟨none, none, .st 2 (.t 13) (.t 67)⟩]
@[simp] def c_law7_OpenHead_r16 : List Ir := [⟨(some 68), none, .fadr 0 (.t 13)⟩,
  ⟨(some 69), none, .ld (.t 68)⟩,
  ⟨(some 70), none, .mov (.t 11)⟩,
  ⟨(some 71), none, .iadrS 1 (.t 69) (.c (.int .i64 1))⟩,
  ⟨none, none, .st 1 (.t 71) (.t 70)⟩]
@[simp] def c_law7_OpenHead_r17 : List Ir := [⟨(some 72), none, .mkrow 1 0 [] []⟩,
  ⟨(some 73), none, .fadr 0 (.t 5)⟩,
  ⟨(some 74), none, .ld (.t 73)⟩,
  ⟨(some 75), none, .app 1 16 (.t 72) (.t 74)⟩,
  ⟨(some 76), none, .build [(.slice none 0 0), (.slice none 0 0)] [(0, (1, (.t 75)))]⟩,
  ⟨(some 14), none, .new [(.slice none 0 0), (.slice none 0 0)]⟩,
  ⟨none, none, .st 2 (.t 14) (.t 76)⟩]
@[simp] def c_law7_OpenHead_r18 : List Ir := [⟨(some 77), none, .fadr 0 (.t 14)⟩,
  ⟨(some 78), none, .ld (.t 77)⟩,
  ⟨(some 79), none, .mov (.t 1)⟩,
  ⟨(some 80), none, .ii .u64 (.t 79)⟩,
  ⟨(some 81), none, .bin .rem 55 (.t 80) (.c (.int .u64 200))⟩,
  ⟨(some 82), none, .ii .i64 (.t 81)⟩,
  ⟨(some 83), none, .bin .add 3 (.c (.int .i64 2)) (.t 82)⟩,
  ⟨(some 84), none, .mov (.t 11)⟩,
  ⟨(some 85), none, .iadrS 1 (.t 78) (.t 83)⟩,
  ⟨none, none, .st 1 (.t 85) (.t 84)⟩]
@[simp] def c_law7_OpenHead_r19 : List Ir := [⟨(some 87), none, .ldn 2 (.t 12)⟩,
  ⟨(some 88), none, .call f_open_Open [(.t 87)]⟩,
  ⟨(some 86), none, .mov (.t 88)⟩,
  ⟨(some 89), none, .ext 0 (.t 86)⟩,
  ⟨(some 90), none, .ext 1 (.t 86)⟩,
  ⟨(some 15), none, .new [(.int .i64 0), (.int .i64 0), (.int .i64 0), (.int .i64 0), (.slice none 0 0)]⟩,
  ⟨none, none, .st 5 (.t 15) (.t 89)⟩,
  ⟨(some 16), none, .mov (.t 90)⟩]
@[simp] def c_law7_OpenHead_r20 : List Ir := [⟨(some 92), none, .ldn 2 (.t 13)⟩,
  ⟨(some 93), none, .call f_open_Open [(.t 92)]⟩,
  ⟨(some 91), none, .mov (.t 93)⟩,
  ⟨(some 94), none, .ext 0 (.t 91)⟩,
  ⟨(some 95), none, .ext 1 (.t 91)⟩,
  ⟨(some 17), none, .new [(.int .i64 0), (.int .i64 0), (.int .i64 0), (.int .i64 0), (.slice none 0 0)]⟩,
  ⟨none, none, .st 5 (.t 17) (.t 94)⟩,
  ⟨(some 18), none, .mov (.t 95)⟩]
@[simp] def c_law7_OpenHead_r21 : List Ir := [⟨(some 97), none, .ldn 2 (.t 14)⟩,
  ⟨(some 98), none, .call f_open_Open [(.t 97)]⟩,
  ⟨(some 96), none, .mov (.t 98)⟩,
  ⟨(some 99), none, .ext 0 (.t 96)⟩,
  ⟨(some 100), none, .ext 1 (.t 96)⟩,
  ⟨(some 19), none, .new [(.int .i64 0), (.int .i64 0), (.int .i64 0), (.int .i64 0), (.slice none 0 0)]⟩,
  ⟨none, none, .st 5 (.t 19) (.t 99)⟩,
  ⟨(some 20), none, .mov (.t 100)⟩]
@[simp] def c_law7_OpenHead_r22 : List Ir := [⟨(some 101), none, .mov (.t 16)⟩,
  ⟨(some 102), none, .call f_law0_Num [(.t 101)]⟩,
  ⟨(some 103), none, .bin .eql 3 (.t 102) (.c (.int .i64 0))⟩,
  ⟨(some 104), none, .mov (.t 103)⟩,
  ⟨(some 105), (some (104, true)), .ldn 5 (.t 15)⟩,
  ⟨(some 106), (some (104, true)), .ldn 5 (.t 7)⟩,
  ⟨(some 107), (some (104, true)), .call f_law0_SamePager [(.t 105), (.t 106)]⟩,
  ⟨(some 108), none, .pick (.t 104) (.t 107) (.c (.bool false))⟩,
  ⟨(some 109), none, .mov (.t 108)⟩,
  ⟨(some 110), (some (109, true)), .mov (.t 18)⟩,
  ⟨(some 111), (some (109, true)), .call f_law0_Num [(.t 110)]⟩,
  ⟨(some 112), (some (109, true)), .bin .eql 3 (.t 111) (.c (.int .i64 501))⟩,
  ⟨(some 113), none, .pick (.t 109) (.t 112) (.c (.bool false))⟩,
  ⟨(some 114), none, .mov (.t 113)⟩,
  ⟨(some 115), (some (114, true)), .mov (.t 20)⟩,
  ⟨(some 116), (some (114, true)), .call f_law0_Num [(.t 115)]⟩,
  ⟨(some 117), (some (114, true)), .bin .eql 3 (.t 116) (.c (.int .i64 0))⟩,
  ⟨(some 118), none, .pick (.t 114) (.t 117) (.c (.bool false))⟩,
  ⟨(some 119), none, .mov (.t 118)⟩,
  ⟨(some 120), (some (119, true)), .ldn 5 (.t 19)⟩,
  ⟨(some 121), (some (119, true)), .ldn 5 (.t 7)⟩,
  ⟨(some 122), (some (119, true)), .call f_law0_SamePager [(.t 120), (.t 121)]⟩,
  ⟨(some 123), none, .pick (.t 119) (.t 122) (.c (.bool false))⟩,
  ⟨(some 4), none, .mov (.t 123)⟩]
@[simp] def c_law7_OpenHead : IFn := ⟨(.seq (.reg c_law7_OpenHead_r0) (.seq (.seq (.reg c_law7_OpenHead_r1) (.cond (.t 22) (.seq (.reg c_law7_OpenHead_r2) .ret) .skip)) (.seq (.seq (.reg c_law7_OpenHead_r3) (.cond (.t 25) (.seq (.reg c_law7_OpenHead_r4) .ret) .skip)) (.seq (.reg c_law7_OpenHead_r5) (.seq (.reg c_law7_OpenHead_r6) (.seq (.reg c_law7_OpenHead_r7) (.seq (.reg c_law7_OpenHead_r8) (.seq (.reg c_law7_OpenHead_r9) (.seq (.seq (.reg c_law7_OpenHead_r10) (.cond (.t 51) (.seq (.reg c_law7_OpenHead_r11) .ret) .skip)) (.seq (.reg c_law7_OpenHead_r12) (.seq (.reg c_law7_OpenHead_r13) (.seq (.reg c_law7_OpenHead_r14) (.seq (.reg c_law7_OpenHead_r15) (.seq (.reg c_law7_OpenHead_r16) (.seq (.reg c_law7_OpenHead_r17) (.seq (.reg c_law7_OpenHead_r18) (.seq (.reg c_law7_OpenHead_r19) (.seq (.reg c_law7_OpenHead_r20) (.seq (.reg c_law7_OpenHead_r21) (.seq (.reg c_law7_OpenHead_r22) .ret)))))))))))))))))))), 124, [.tmp 4]⟩

theorem fc_law7_OpenHead : fnAt Try.prog f_law7_OpenHead = some c_law7_OpenHead := by kernel_rfl
@[simp] def c_law7_OpenTorn_r0 : List Ir := [⟨(some 6), none, .mov (.c (.bool false))⟩]
@[simp] def c_law7_OpenTorn_r1 : List Ir := [⟨(some 18), none, .call f_law7_awake []⟩,
  ⟨(some 19), none, .un .not (.t 18)⟩]
@[simp] def c_law7_OpenTorn_r2 : List Ir := [⟨(some 6), none, .mov (.c (.bool false))⟩]
@[simp] def c_law7_OpenTorn_r3 : List Ir := [⟨(some 20), none, .mov (.t 0)⟩,
  ⟨(some 21), none, .call f_ref1_ImagesMay [(.t 20)]⟩,
  ⟨(some 22), none, .un .not (.t 21)⟩]
@[simp] def c_law7_OpenTorn_r4 : List Ir := [⟨(some 6), none, .mov (.c (.bool true))⟩]
@[simp] def c_law7_OpenTorn_r5 : List Ir := [⟨(some 23), none, .call f_ref1_NewDisk []⟩,
  ⟨(some 24), none, .call f_ref1_Format []⟩,
  ⟨(some 25), none, .call f_law7_done [(.t 23), (.t 24)]⟩,
  ⟨(some 7), none, .new [(.slice none 0 0), (.slice none 0 0)]⟩,
  ⟨none, none, .st 2 (.t 7) (.t 25)⟩]
@[simp] def c_law7_OpenTorn_r6 : List Ir := [⟨(some 27), none, .call f_ref1_Blank []⟩,
  ⟨(some 28), none, .mov (.t 0)⟩,
  ⟨(some 29), none, .call f_ref1_Commit [(.t 27), (.t 28)]⟩,
  ⟨(some 26), none, .mov (.t 29)⟩,
  ⟨(some 30), none, .ext 0 (.t 26)⟩,
  ⟨(some 31), none, .ext 1 (.t 26)⟩,
  ⟨(some 32), none, .ext 2 (.t 26)⟩,
  ⟨(some 9), none, .new [(.int .i64 0), (.int .i64 0), (.int .i64 0), (.int .i64 0), (.slice none 0 0)]⟩,
  ⟨(some 8), none, .mov (.t 30)⟩,
  ⟨none, none, .st 5 (.t 9) (.t 31)⟩,
  ⟨(some 10), none, .mov (.t 32)⟩]
@[simp] def c_law7_OpenTorn_r7 : List Ir := [⟨(some 33), none, .ldn 2 (.t 7)⟩,
  ⟨(some 34), none, .mov (.t 8)⟩,
  ⟨(some 35), none, .call f_law7_done [(.t 33), (.t 34)]⟩,
  ⟨none, none, .st 2 (.t 7) (.t 35)⟩]
@[simp] def c_law7_OpenTorn_r8 : List Ir := [⟨(some 37), none, .ldn 5 (.t 9)⟩,
  ⟨(some 38), none, .call f_ref1_Fresh [(.t 37)]⟩,
  ⟨(some 36), none, .mov (.t 38)⟩,
  ⟨(some 39), none, .ext 0 (.t 36)⟩,
  ⟨(some 40), none, .ext 1 (.t 36)⟩,
  ⟨(some 41), none, .ext 2 (.t 36)⟩,
  ⟨(some 11), none, .mov (.t 39)⟩,
  ⟨none, none, .st 5 (.t 9) (.t 40)⟩,
  ⟨(some 12), none, .mov (.t 41)⟩]
@[simp] def c_law7_OpenTorn_r9 : List Ir := [⟨(some 42), none, .ldn 2 (.t 7)⟩,
  ⟨(some 43), none, .mov (.t 11)⟩,
  ⟨(some 44), none, .call f_law7_done [(.t 42), (.t 43)]⟩,
  ⟨none, none, .st 2 (.t 7) (.t 44)⟩]
@[simp] def c_law7_OpenTorn_r10 : List Ir := [⟨(some 45), none, .fadr 0 (.t 7)⟩,
  ⟨(some 46), none, .ld (.t 45)⟩,
  ⟨(some 47), none, .lenV (.t 46)⟩,
  ⟨(some 48), none, .bin .neq 3 (.t 47) (.c (.int .i64 394))⟩]
@[simp] def c_law7_OpenTorn_r11 : List Ir := [⟨(some 6), none, .mov (.c (.bool false))⟩]
@[simp] def c_law7_OpenTorn_r12 : List Ir := [⟨(some 49), none, .mov (.t 1)⟩,
  ⟨(some 50), none, .ii .u64 (.t 49)⟩,
  ⟨(some 51), none, .bin .rem 55 (.t 50) (.c (.int .u64 48))⟩,
  ⟨(some 52), none, .ii .i64 (.t 51)⟩,
  ⟨(some 13), none, .mov (.t 52)⟩]
@[simp] def c_law7_OpenTorn_r13 : List Ir := [⟨(some 53), none, .mov (.t 13)⟩,
  ⟨(some 54), none, .bin .mul 3 (.c (.int .i64 4)) (.t 53)⟩,
  ⟨(some 55), none, .bin .add 3 (.c (.int .i64 202)) (.t 54)⟩,
  ⟨(some 56), none, .mov (.t 2)⟩,
  ⟨(some 57), none, .bin .and 3 (.t 56) (.c (.int .i64 3))⟩,
  ⟨(some 58), none, .bin .add 3 (.t 55) (.t 57)⟩,
  ⟨(some 14), none, .mov (.t 58)⟩]
@[simp] def c_law7_OpenTorn_r14 : List Ir := [⟨(some 59), none, .fadr 0 (.t 7)⟩,
  ⟨(some 60), none, .ld (.t 59)⟩,
  ⟨(some 61), none, .mov (.t 14)⟩,
  ⟨(some 62), none, .mks 1 1 [(.int .u8 0)] (.c (.int .i64 64)) (.c (.int .i64 64))⟩,
  ⟨(some 63), none, .b2s (.t 62)⟩,
  ⟨(some 64), none, .iadrS 1 (.t 60) (.t 61)⟩,
  ⟨none, none, .st 1 (.t 64) (.t 63)⟩]
@[simp] def c_law7_OpenTorn_r15 : List Ir := [⟨(some 66), none, .ldn 2 (.t 7)⟩,
  ⟨(some 67), none, .call f_open_Open [(.t 66)]⟩,
  ⟨(some 65), none, .mov (.t 67)⟩,
  ⟨(some 68), none, .ext 0 (.t 65)⟩,
  ⟨(some 69), none, .ext 1 (.t 65)⟩,
  ⟨(some 15), none, .new [(.int .i64 0), (.int .i64 0), (.int .i64 0), (.int .i64 0), (.slice none 0 0)]⟩,
  ⟨none, none, .st 5 (.t 15) (.t 68)⟩,
  ⟨(some 16), none, .mov (.t 69)⟩]
@[simp] def c_law7_OpenTorn_r16 : List Ir := [⟨(some 70), none, .mov (.t 16)⟩,
  ⟨(some 71), none, .call f_law0_Num [(.t 70)]⟩,
  ⟨(some 72), none, .bin .neq 3 (.t 71) (.c (.int .i64 0))⟩,
  ⟨(some 73), none, .mov (.t 72)⟩,
  ⟨(some 74), (some (73, false)), .fadr 4 (.t 15)⟩,
  ⟨(some 75), (some (73, false)), .ld (.t 74)⟩,
  ⟨(some 76), (some (73, false)), .lenV (.t 75)⟩,
  ⟨(some 77), (some (73, false)), .bin .neq 3 (.t 76) (.c (.int .i64 48))⟩,
  ⟨(some 78), none, .pick (.t 73) (.c (.bool true)) (.t 77)⟩]
@[simp] def c_law7_OpenTorn_r17 : List Ir := [⟨(some 6), none, .mov (.c (.bool false))⟩]
@[simp] def c_law7_OpenTorn_r18 : List Ir := [⟨(some 17), none, .mov (.c (.int .i64 0))⟩]
@[simp] def c_law7_OpenTorn_r19 : List Ir := [⟨(some 79), none, .mov (.t 17)⟩,
  ⟨(some 80), none, .bin .lss 3 (.t 79) (.c (.int .i64 48))⟩]
@[simp] def c_law7_OpenTorn_r20 : List Ir := [⟨(some 83), none, .mov (.t 17)⟩,
  ⟨(some 84), none, .mov (.t 13)⟩,
  ⟨(some 85), none, .bin .neq 3 (.t 83) (.t 84)⟩,
  ⟨(some 86), none, .mov (.t 85)⟩,
  ⟨(some 87), (some (86, true)), .fadr 4 (.t 15)⟩,
  ⟨(some 88), (some (86, true)), .ld (.t 87)⟩,
  ⟨(some 89), (some (86, true)), .mov (.t 17)⟩,
  ⟨(some 90), (some (86, true)), .iadrS 1 (.t 88) (.t 89)⟩,
  ⟨(some 91), (some (86, true)), .ld (.t 90)⟩,
  ⟨(some 92), (some (86, true)), .fadr 4 (.t 9)⟩,
  ⟨(some 93), (some (86, true)), .ld (.t 92)⟩,
  ⟨(some 94), (some (86, true)), .mov (.t 17)⟩,
  ⟨(some 95), (some (86, true)), .iadrS 1 (.t 93) (.t 94)⟩,
  ⟨(some 96), (some (86, true)), .ld (.t 95)⟩,
  ⟨(some 97), (some (86, true)), .bin .neq 9 (.t 91) (.t 96)⟩,
  ⟨(some 98), none, .pick (.t 86) (.t 97) (.c (.bool false))⟩]
@[simp] def c_law7_OpenTorn_r21 : List Ir := [⟨(some 6), none, .mov (.c (.bool false))⟩]
@[simp] def c_law7_OpenTorn_r22 : List Ir := [⟨(some 81), none, .mov (.t 17)⟩,
  ⟨(some 82), none, .bin .add 3 (.t 81) (.c (.int .i64 1))⟩,
  ⟨(some 17), none, .mov (.t 82)⟩]
def c_law7_OpenTorn_l23 : IC := (.seq (.seq (.reg c_law7_OpenTorn_r19) (.cond (.t 80) .skip (.exit 0))) (.seq (.block 1 (.seq (.regd c_law7_OpenTorn_r20 []) (.cond (.t 98) (.seq (.reg c_law7_OpenTorn_r21) .ret) .skip))) (.reg c_law7_OpenTorn_r22)))
@[simp] def c_law7_OpenTorn_r24 : List Ir := [⟨(some 99), none, .fadr 4 (.t 15)⟩,
  ⟨(some 100), none, .ld (.t 99)⟩,
  ⟨(some 101), none, .mov (.t 13)⟩,
  ⟨(some 102), none, .iadrS 1 (.t 100) (.t 101)⟩,
  ⟨(some 103), none, .ld (.t 102)⟩,
  ⟨(some 104), none, .bin .eql 9 (.t 103) (.c (.string ⟨#[]⟩))⟩,
  ⟨(some 6), none, .mov (.t 104)⟩]
@[simp] def c_law7_OpenTorn : IFn := ⟨(.seq (.reg c_law7_OpenTorn_r0) (.seq (.seq (.reg c_law7_OpenTorn_r1) (.cond (.t 19) (.seq (.reg c_law7_OpenTorn_r2) .ret) .skip)) (.seq (.seq (.reg c_law7_OpenTorn_r3) (.cond (.t 22) (.seq (.reg c_law7_OpenTorn_r4) .ret) .skip)) (.seq (.reg c_law7_OpenTorn_r5) (.seq (.reg c_law7_OpenTorn_r6) (.seq (.reg c_law7_OpenTorn_r7) (.seq (.reg c_law7_OpenTorn_r8) (.seq (.reg c_law7_OpenTorn_r9) (.seq (.seq (.reg c_law7_OpenTorn_r10) (.cond (.t 48) (.seq (.reg c_law7_OpenTorn_r11) .ret) .skip)) (.seq (.reg c_law7_OpenTorn_r12) (.seq (.reg c_law7_OpenTorn_r13) (.seq (.regd c_law7_OpenTorn_r14 []) (.seq (.reg c_law7_OpenTorn_r15) (.seq (.seq (.reg c_law7_OpenTorn_r16) (.cond (.t 78) (.seq (.reg c_law7_OpenTorn_r17) .ret) .skip)) (.seq (.seq (.reg c_law7_OpenTorn_r18) (.block 0 (.loop c_law7_OpenTorn_l23))) (.seq (.reg c_law7_OpenTorn_r24) .ret)))))))))))))))), 105, [.tmp 6]⟩

theorem fc_law7_OpenTorn : fnAt Try.prog f_law7_OpenTorn = some c_law7_OpenTorn := by kernel_rfl
@[simp] def c_law1_PairForms_r0 : List Ir := [⟨(some 8), none, .mov (.c (.bool false))⟩]
@[simp] def c_law1_PairForms_r1 : List Ir := [⟨(some 31), none, .call f_law1_awake []⟩,
  ⟨(some 32), none, .un .not (.t 31)⟩]
@[simp] def c_law1_PairForms_r2 : List Ir := [⟨(some 8), none, .mov (.c (.bool false))⟩]
@[simp] def c_law1_PairForms_r3 : List Ir := [⟨(some 34), none, .mov (.t 1)⟩,
  ⟨(some 35), none, .call f_law1_half [(.t 34)]⟩,
  ⟨(some 36), none, .call f_pair_Put [(.t 35)]⟩,
  ⟨(some 33), none, .mov (.t 36)⟩,
  ⟨(some 37), none, .ext 0 (.t 33)⟩,
  ⟨(some 38), none, .ext 1 (.t 33)⟩,
  ⟨(some 9), none, .mov (.t 37)⟩,
  ⟨(some 10), none, .mov (.t 38)⟩]
@[simp] def c_law1_PairForms_r4 : List Ir := [⟨(some 39), none, .mov (.t 10)⟩,
  ⟨(some 40), none, .call f_law0_Num [(.t 39)]⟩,
  ⟨(some 41), none, .bin .neq 3 (.t 40) (.c (.int .i64 0))⟩,
  ⟨(some 42), none, .mov (.t 41)⟩,
  ⟨(some 43), (some (42, false)), .mov (.t 9)⟩,
  ⟨(some 44), (some (42, false)), .lenS (.t 43)⟩,
  ⟨(some 45), (some (42, false)), .bin .neq 3 (.t 44) (.c (.int .i64 64))⟩,
  ⟨(some 46), none, .pick (.t 42) (.c (.bool true)) (.t 45)⟩]
@[simp] def c_law1_PairForms_r5 : List Ir := [⟨(some 8), none, .mov (.c (.bool false))⟩]
@[simp] def c_law1_PairForms_r6 : List Ir := [⟨(some 47), none, .mov (.t 9)⟩,
  ⟨(some 48), none, .s2b (.t 47)⟩,
  ⟨(some 11), none, .mov (.t 48)⟩]
@[simp] def c_law1_PairForms_r7 : List Ir := [⟨(some 49), none, .mov (.t 2)⟩,
  ⟨(some 50), none, .ii .u64 (.t 49)⟩,
  ⟨(some 51), none, .bin .rem 55 (.t 50) (.c (.int .u64 64))⟩,
  ⟨(some 52), none, .ii .i64 (.t 51)⟩,
  ⟨(some 12), none, .mov (.t 52)⟩]
@[simp] def c_law1_PairForms_r8 : List Ir := [⟨(some 53), none, .mov (.t 11)⟩,
  ⟨(some 54), none, .mov (.t 12)⟩,
  ⟨(some 55), none, .mov (.t 11)⟩,
  ⟨(some 56), none, .mov (.t 12)⟩,
  ⟨(some 57), none, .iadrS 1 (.t 55) (.t 56)⟩,
  ⟨(some 58), none, .ld (.t 57)⟩,
  ⟨(some 59), none, .mov (.t 3)⟩,
  ⟨(some 60), none, .bin .and 3 (.t 59) (.c (.int .i64 127))⟩,
  ⟨(some 61), none, .bin .add 3 (.c (.int .i64 1)) (.t 60)⟩,
  ⟨(some 62), none, .ii .u8 (.t 61)⟩,
  ⟨(some 63), none, .bin .xor 5 (.t 58) (.t 62)⟩,
  ⟨(some 64), none, .iadrS 1 (.t 53) (.t 54)⟩,
  ⟨none, none, .st 1 (.t 64) (.t 63)⟩]
@[simp] def c_law1_PairForms_r9 : List Ir := [⟨(some 66), none, .mov (.t 11)⟩,
  ⟨(some 67), none, .b2s (.t 66)⟩,
  ⟨(some 68), none, .call f_pair_Get [(.t 67)]⟩,
  ⟨(some 65), none, .mov (.t 68)⟩,
  ⟨(some 69), none, .ext 0 (.t 65)⟩,
  ⟨(some 70), none, .ext 1 (.t 65)⟩,
  ⟨(some 13), none, .mov (.t 69)⟩,
  ⟨(some 14), none, .mov (.t 70)⟩]
@[simp] def c_law1_PairForms_r10 : List Ir := [⟨(some 72), none, .mov (.t 9)⟩,
  ⟨(some 73), none, .sls (.t 72) none (some (.c (.int .i64 63)))⟩,
  ⟨(some 74), none, .call f_pair_Get [(.t 73)]⟩,
  ⟨(some 71), none, .mov (.t 74)⟩,
  ⟨(some 75), none, .ext 0 (.t 71)⟩,
  ⟨(some 76), none, .ext 1 (.t 71)⟩,
  ⟨(some 15), none, .mov (.t 75)⟩,
  ⟨(some 16), none, .mov (.t 76)⟩]
@[simp] def c_law1_PairForms_r11 : List Ir := [⟨(some 78), none, .mov (.t 9)⟩,
  ⟨(some 79), none, .bin .add 9 (.t 78) (.c (.string ⟨#[120]⟩))⟩,
  ⟨(some 80), none, .call f_pair_Get [(.t 79)]⟩,
  ⟨(some 77), none, .mov (.t 80)⟩,
  ⟨(some 81), none, .ext 0 (.t 77)⟩,
  ⟨(some 82), none, .ext 1 (.t 77)⟩,
  ⟨(some 17), none, .mov (.t 81)⟩,
  ⟨(some 18), none, .mov (.t 82)⟩]
@[simp] def c_law1_PairForms_r12 : List Ir := [⟨(some 84), none, .mov (.t 1)⟩,
  ⟨(some 85), none, .call f_law1_half [(.t 84)]⟩,
  ⟨(some 86), none, .bin .add 9 (.t 85) (.c (.string ⟨#[120]⟩))⟩,
  ⟨(some 87), none, .call f_pair_Put [(.t 86)]⟩,
  ⟨(some 83), none, .mov (.t 87)⟩,
  ⟨(some 88), none, .ext 0 (.t 83)⟩,
  ⟨(some 89), none, .ext 1 (.t 83)⟩,
  ⟨(some 19), none, .mov (.t 88)⟩,
  ⟨(some 20), none, .mov (.t 89)⟩]
@[simp] def c_law1_PairForms_r13 : List Ir := [⟨(some 91), none, .mov (.t 1)⟩,
  ⟨(some 92), none, .call f_law1_half [(.t 91)]⟩,
  ⟨(some 93), none, .sls (.t 92) (some (.c (.int .i64 1))) none⟩,
  ⟨(some 94), none, .call f_pair_Put [(.t 93)]⟩,
  ⟨(some 90), none, .mov (.t 94)⟩,
  ⟨(some 95), none, .ext 0 (.t 90)⟩,
  ⟨(some 96), none, .ext 1 (.t 90)⟩,
  ⟨(some 21), none, .mov (.t 95)⟩,
  ⟨(some 22), none, .mov (.t 96)⟩]
@[simp] def c_law1_PairForms_r14 : List Ir := [⟨(some 97), none, .mkrow 1 6 [(.int .i64 0), (.int .i64 0), (.int .i64 0), (.int .i64 0), (.int .i64 0), (.int .i64 0)] [(0, (1, (.c (.int .i64 0)))), (1, (1, (.c (.int .i64 1)))), (2, (1, (.c (.int .i64 32)))), (3, (1, (.c (.int .i64 63)))), (4, (1, (.c (.int .i64 65)))), (5, (1, (.c (.int .i64 128))))]⟩,
  ⟨(some 23), none, .mov (.t 97)⟩]
@[simp] def c_law1_PairForms_r15 : List Ir := [⟨(some 98), none, .mov (.t 23)⟩,
  ⟨(some 99), none, .mov (.t 0)⟩,
  ⟨(some 100), none, .ii .u64 (.t 99)⟩,
  ⟨(some 101), none, .bin .rem 55 (.t 100) (.c (.int .u64 6))⟩,
  ⟨(some 102), none, .ii .i64 (.t 101)⟩,
  ⟨(some 103), none, .iadrS 1 (.t 98) (.t 102)⟩,
  ⟨(some 104), none, .ld (.t 103)⟩,
  ⟨(some 105), none, .call f_law1_zeros [(.t 104)]⟩,
  ⟨(some 24), none, .mov (.t 105)⟩]
@[simp] def c_law1_PairForms_r16 : List Ir := [⟨(some 107), none, .mov (.t 24)⟩,
  ⟨(some 108), none, .mov (.t 9)⟩,
  ⟨(some 109), none, .call f_pair_Torn [(.t 107), (.t 108), (.c (.int .i64 0))]⟩,
  ⟨(some 106), none, .mov (.t 109)⟩,
  ⟨(some 110), none, .ext 0 (.t 106)⟩,
  ⟨(some 111), none, .ext 1 (.t 106)⟩,
  ⟨(some 25), none, .mov (.t 110)⟩,
  ⟨(some 26), none, .mov (.t 111)⟩]
@[simp] def c_law1_PairForms_r17 : List Ir := [⟨(some 113), none, .mov (.t 9)⟩,
  ⟨(some 114), none, .mov (.t 24)⟩,
  ⟨(some 115), none, .call f_pair_Torn [(.t 113), (.t 114), (.c (.int .i64 0))]⟩,
  ⟨(some 112), none, .mov (.t 115)⟩,
  ⟨(some 116), none, .ext 0 (.t 112)⟩,
  ⟨(some 117), none, .ext 1 (.t 112)⟩,
  ⟨(some 27), none, .mov (.t 116)⟩,
  ⟨(some 28), none, .mov (.t 117)⟩]
@[simp] def c_law1_PairForms_r18 : List Ir := [⟨(some 119), none, .mov (.t 9)⟩,
  ⟨(some 120), none, .mov (.t 9)⟩,
  ⟨(some 121), none, .mov (.t 3)⟩,
  ⟨(some 122), none, .bin .and 3 (.t 121) (.c (.int .i64 1023))⟩,
  ⟨(some 123), none, .bin .sub 3 (.c (.int .i64 (-1))) (.t 122)⟩,
  ⟨(some 124), none, .call f_pair_Torn [(.t 119), (.t 120), (.t 123)]⟩,
  ⟨(some 118), none, .mov (.t 124)⟩,
  ⟨(some 125), none, .ext 0 (.t 118)⟩,
  ⟨(some 126), none, .ext 1 (.t 118)⟩,
  ⟨(some 29), none, .mov (.t 125)⟩,
  ⟨(some 30), none, .mov (.t 126)⟩]
@[simp] def c_law1_PairForms_r19 : List Ir := [⟨(some 127), none, .mov (.t 14)⟩,
  ⟨(some 128), none, .call f_law0_Num [(.t 127)]⟩,
  ⟨(some 129), none, .bin .eql 3 (.t 128) (.c (.int .i64 100))⟩,
  ⟨(some 130), none, .mov (.t 129)⟩,
  ⟨(some 131), (some (130, true)), .mov (.t 16)⟩,
  ⟨(some 132), (some (130, true)), .call f_law0_Num [(.t 131)]⟩,
  ⟨(some 133), (some (130, true)), .bin .eql 3 (.t 132) (.c (.int .i64 100))⟩,
  ⟨(some 134), none, .pick (.t 130) (.t 133) (.c (.bool false))⟩,
  ⟨(some 135), none, .mov (.t 134)⟩,
  ⟨(some 136), (some (135, true)), .mov (.t 18)⟩,
  ⟨(some 137), (some (135, true)), .call f_law0_Num [(.t 136)]⟩,
  ⟨(some 138), (some (135, true)), .bin .eql 3 (.t 137) (.c (.int .i64 100))⟩,
  ⟨(some 139), none, .pick (.t 135) (.t 138) (.c (.bool false))⟩,
  ⟨(some 140), none, .mov (.t 139)⟩,
  ⟨(some 141), (some (140, true)), .mov (.t 20)⟩,
  ⟨(some 142), (some (140, true)), .call f_law0_Num [(.t 141)]⟩,
  ⟨(some 143), (some (140, true)), .bin .eql 3 (.t 142) (.c (.int .i64 100))⟩,
  ⟨(some 144), none, .pick (.t 140) (.t 143) (.c (.bool false))⟩,
  ⟨(some 145), none, .mov (.t 144)⟩,
  ⟨(some 146), (some (145, true)), .mov (.t 22)⟩,
  ⟨(some 147), (some (145, true)), .call f_law0_Num [(.t 146)]⟩,
  ⟨(some 148), (some (145, true)), .bin .eql 3 (.t 147) (.c (.int .i64 100))⟩,
  ⟨(some 149), none, .pick (.t 145) (.t 148) (.c (.bool false))⟩,
  ⟨(some 150), none, .mov (.t 149)⟩,
  ⟨(some 151), (some (150, true)), .mov (.t 26)⟩,
  ⟨(some 152), (some (150, true)), .call f_law0_Num [(.t 151)]⟩,
  ⟨(some 153), (some (150, true)), .bin .eql 3 (.t 152) (.c (.int .i64 100))⟩,
  ⟨(some 154), none, .pick (.t 150) (.t 153) (.c (.bool false))⟩,
  ⟨(some 155), none, .mov (.t 154)⟩,
  ⟨(some 156), (some (155, true)), .mov (.t 28)⟩,
  ⟨(some 157), (some (155, true)), .call f_law0_Num [(.t 156)]⟩,
  ⟨(some 158), (some (155, true)), .bin .eql 3 (.t 157) (.c (.int .i64 100))⟩,
  ⟨(some 159), none, .pick (.t 155) (.t 158) (.c (.bool false))⟩,
  ⟨(some 160), none, .mov (.t 159)⟩,
  ⟨(some 161), (some (160, true)), .mov (.t 30)⟩,
  ⟨(some 162), (some (160, true)), .call f_law0_Num [(.t 161)]⟩,
  ⟨(some 163), (some (160, true)), .bin .eql 3 (.t 162) (.c (.int .i64 100))⟩,
  ⟨(some 164), none, .pick (.t 160) (.t 163) (.c (.bool false))⟩,
  ⟨(some 8), none, .mov (.t 164)⟩]
@[simp] def c_law1_PairForms : IFn := ⟨(.seq (.reg c_law1_PairForms_r0) (.seq (.seq (.reg c_law1_PairForms_r1) (.cond (.t 32) (.seq (.reg c_law1_PairForms_r2) .ret) .skip)) (.seq (.reg c_law1_PairForms_r3) (.seq (.seq (.reg c_law1_PairForms_r4) (.cond (.t 46) (.seq (.reg c_law1_PairForms_r5) .ret) .skip)) (.seq (.reg c_law1_PairForms_r6) (.seq (.reg c_law1_PairForms_r7) (.seq (.reg c_law1_PairForms_r8) (.seq (.reg c_law1_PairForms_r9) (.seq (.reg c_law1_PairForms_r10) (.seq (.reg c_law1_PairForms_r11) (.seq (.reg c_law1_PairForms_r12) (.seq (.reg c_law1_PairForms_r13) (.seq (.reg c_law1_PairForms_r14) (.seq (.reg c_law1_PairForms_r15) (.seq (.reg c_law1_PairForms_r16) (.seq (.reg c_law1_PairForms_r17) (.seq (.reg c_law1_PairForms_r18) (.seq (.reg c_law1_PairForms_r19) .ret)))))))))))))))))), 165, [.tmp 8]⟩

theorem fc_law1_PairForms : fnAt Try.prog f_law1_PairForms = some c_law1_PairForms := by kernel_rfl
@[simp] def c_law5_HeadRow_r0 : List Ir := [⟨(some 6), none, .mov (.c (.bool false))⟩]
@[simp] def c_law5_HeadRow_r1 : List Ir := [⟨(some 17), none, .call f_law5_awake []⟩,
  ⟨(some 18), none, .un .not (.t 17)⟩]
@[simp] def c_law5_HeadRow_r2 : List Ir := [⟨(some 6), none, .mov (.c (.bool false))⟩]
@[simp] def c_law5_HeadRow_r3 : List Ir := [⟨(some 19), none, .mov (.t 0)⟩,
  ⟨(some 20), none, .bin .and 3 (.t 19) (.c (.int .i64 15))⟩,
  ⟨(some 21), none, .bin .add 3 (.c (.int .i64 1)) (.t 20)⟩,
  ⟨(some 7), none, .mov (.t 21)⟩]
@[simp] def c_law5_HeadRow_r4 : List Ir := [⟨(some 8), none, .new [(.string ⟨#[]⟩), (.string ⟨#[]⟩)]⟩]
@[simp] def c_law5_HeadRow_r5 : List Ir := [⟨(some 9), none, .mov (.c (.int .i64 0))⟩]
@[simp] def c_law5_HeadRow_r6 : List Ir := [⟨(some 22), none, .mov (.t 9)⟩,
  ⟨(some 23), none, .mov (.t 7)⟩,
  ⟨(some 24), none, .bin .leq 3 (.t 22) (.t 23)⟩]
@[simp] def c_law5_HeadRow_r7 : List Ir := [⟨(some 28), none, .mov (.t 9)⟩,
  ⟨(some 29), none, .mov (.t 2)⟩,
  ⟨(some 30), none, .bin .and 3 (.t 29) (.c (.int .i64 65535))⟩,
  ⟨(some 31), none, .bin .add 3 (.c (.int .i64 1)) (.t 30)⟩,
  ⟨(some 32), none, .mov (.t 9)⟩,
  ⟨(some 33), none, .bin .add 3 (.t 31) (.t 32)⟩,
  ⟨(some 34), none, .build [(.int .i64 0), (.int .i64 0)] [(0, (1, (.t 28))), (1, (1, (.t 33)))]⟩,
  ⟨(some 35), none, .call f_head_Put [(.t 34)]⟩,
  ⟨(some 27), none, .mov (.t 35)⟩,
  ⟨(some 36), none, .ext 0 (.t 27)⟩,
  ⟨(some 37), none, .ext 1 (.t 27)⟩,
  ⟨(some 10), none, .mov (.t 36)⟩,
  ⟨(some 11), none, .mov (.t 37)⟩]
@[simp] def c_law5_HeadRow_r8 : List Ir := [⟨(some 39), none, .mov (.t 10)⟩,
  ⟨(some 40), none, .call f_ref1_PutPair [(.t 39)]⟩,
  ⟨(some 38), none, .mov (.t 40)⟩,
  ⟨(some 41), none, .ext 0 (.t 38)⟩,
  ⟨(some 42), none, .ext 1 (.t 38)⟩,
  ⟨(some 12), none, .mov (.t 41)⟩,
  ⟨(some 13), none, .mov (.t 42)⟩]
@[simp] def c_law5_HeadRow_r9 : List Ir := [⟨(some 43), none, .mov (.t 11)⟩,
  ⟨(some 44), none, .call f_law0_Num [(.t 43)]⟩,
  ⟨(some 45), none, .bin .neq 3 (.t 44) (.c (.int .i64 0))⟩,
  ⟨(some 46), none, .mov (.t 45)⟩,
  ⟨(some 47), (some (46, false)), .mov (.t 12)⟩,
  ⟨(some 48), (some (46, false)), .lenS (.t 47)⟩,
  ⟨(some 49), (some (46, false)), .bin .neq 3 (.t 48) (.c (.int .i64 64))⟩,
  ⟨(some 50), none, .pick (.t 46) (.c (.bool true)) (.t 49)⟩]
@[simp] def c_law5_HeadRow_r10 : List Ir := [⟨(some 6), none, .mov (.c (.bool false))⟩]
@[simp] def c_law5_HeadRow_r11 : List Ir := [⟨(some 51), none, .mov (.t 9)⟩,
  ⟨(some 52), none, .mov (.t 7)⟩,
  ⟨(some 53), none, .bin .eql 3 (.t 51) (.t 52)⟩,
  ⟨(some 54), none, .mov (.t 53)⟩,
  ⟨(some 55), (some (54, true)), .mov (.t 9)⟩,
  ⟨(some 56), (some (54, true)), .bin .and 3 (.t 55) (.c (.int .i64 1))⟩,
  ⟨(some 57), (some (54, true)), .iadrA 2 1 (.t 8) (.t 56)⟩,
  ⟨(some 58), (some (54, true)), .ld (.t 57)⟩,
  ⟨(some 59), (some (54, true)), .bin .neq 9 (.t 58) (.c (.string ⟨#[]⟩))⟩,
  ⟨(some 60), none, .pick (.t 54) (.t 59) (.c (.bool false))⟩]
@[simp] def c_law5_HeadRow_r12 : List Ir := [⟨(some 61), none, .mov (.t 1)⟩,
  ⟨(some 62), none, .ii .u64 (.t 61)⟩,
  ⟨(some 63), none, .bin .rem 55 (.t 62) (.c (.int .u64 65))⟩,
  ⟨(some 64), none, .ii .i64 (.t 63)⟩,
  ⟨(some 14), none, .mov (.t 64)⟩]
@[simp] def c_law5_HeadRow_r13 : List Ir := [⟨(some 65), none, .mov (.t 12)⟩,
  ⟨(some 66), none, .mov (.t 14)⟩,
  ⟨(some 67), none, .sls (.t 65) none (some (.t 66))⟩,
  ⟨(some 68), none, .mov (.t 9)⟩,
  ⟨(some 69), none, .bin .and 3 (.t 68) (.c (.int .i64 1))⟩,
  ⟨(some 70), none, .iadrA 2 1 (.t 8) (.t 69)⟩,
  ⟨(some 71), none, .ld (.t 70)⟩,
  ⟨(some 72), none, .mov (.t 14)⟩,
  ⟨(some 73), none, .sls (.t 71) (some (.t 72)) none⟩,
  ⟨(some 74), none, .bin .add 9 (.t 67) (.t 73)⟩,
  ⟨(some 12), none, .mov (.t 74)⟩]
@[simp] def c_law5_HeadRow_r14 : List Ir := [⟨(some 75), none, .mov (.t 9)⟩,
  ⟨(some 76), none, .bin .and 3 (.t 75) (.c (.int .i64 1))⟩,
  ⟨(some 77), none, .mov (.t 12)⟩,
  ⟨(some 78), none, .iadrA 2 1 (.t 8) (.t 76)⟩,
  ⟨none, none, .st 1 (.t 78) (.t 77)⟩]
@[simp] def c_law5_HeadRow_r15 : List Ir := [⟨(some 25), none, .mov (.t 9)⟩,
  ⟨(some 26), none, .bin .add 3 (.t 25) (.c (.int .i64 1))⟩,
  ⟨(some 9), none, .mov (.t 26)⟩]
def c_law5_HeadRow_l16 : IC := (.seq (.seq (.reg c_law5_HeadRow_r6) (.cond (.t 24) .skip (.exit 0))) (.seq (.block 1 (.seq (.reg c_law5_HeadRow_r7) (.seq (.reg c_law5_HeadRow_r8) (.seq (.seq (.reg c_law5_HeadRow_r9) (.cond (.t 50) (.seq (.reg c_law5_HeadRow_r10) .ret) .skip)) (.seq (.seq (.reg c_law5_HeadRow_r11) (.cond (.t 60) (.seq (.reg c_law5_HeadRow_r12) (.regd c_law5_HeadRow_r13 [])) .skip)) (.reg c_law5_HeadRow_r14)))))) (.reg c_law5_HeadRow_r15)))
@[simp] def c_law5_HeadRow_r17 : List Ir := [⟨(some 80), none, .iadrA 2 1 (.t 8) (.c (.int .i64 0))⟩,
  ⟨(some 81), none, .ld (.t 80)⟩,
  ⟨(some 82), none, .iadrA 2 1 (.t 8) (.c (.int .i64 1))⟩,
  ⟨(some 83), none, .ld (.t 82)⟩,
  ⟨(some 84), none, .call f_head_Best [(.t 81), (.t 83)]⟩,
  ⟨(some 79), none, .mov (.t 84)⟩,
  ⟨(some 85), none, .ext 0 (.t 79)⟩,
  ⟨(some 86), none, .ext 1 (.t 79)⟩,
  ⟨(some 15), none, .new [(.int .i64 0), (.int .i64 0)]⟩,
  ⟨none, none, .st 2 (.t 15) (.t 85)⟩,
  ⟨(some 16), none, .mov (.t 86)⟩]
@[simp] def c_law5_HeadRow_r18 : List Ir := [⟨(some 87), none, .mov (.t 16)⟩,
  ⟨(some 88), none, .call f_law0_Num [(.t 87)]⟩,
  ⟨(some 89), none, .bin .eql 3 (.t 88) (.c (.int .i64 0))⟩,
  ⟨(some 90), none, .mov (.t 89)⟩,
  ⟨(some 91), (some (90, true)), .fadr 0 (.t 15)⟩,
  ⟨(some 92), (some (90, true)), .ld (.t 91)⟩,
  ⟨(some 93), (some (90, true)), .mov (.t 7)⟩,
  ⟨(some 94), (some (90, true)), .bin .eql 3 (.t 92) (.t 93)⟩,
  ⟨(some 95), (some (90, true)), .mov (.t 94)⟩,
  ⟨(some 96), (some (95, false)), .fadr 0 (.t 15)⟩,
  ⟨(some 97), (some (95, false)), .ld (.t 96)⟩,
  ⟨(some 98), (some (95, false)), .mov (.t 7)⟩,
  ⟨(some 99), (some (95, false)), .bin .sub 3 (.t 98) (.c (.int .i64 1))⟩,
  ⟨(some 100), (some (95, false)), .bin .eql 3 (.t 97) (.t 99)⟩,
  ⟨(some 101), (some (90, true)), .pick (.t 95) (.c (.bool true)) (.t 100)⟩,
  ⟨(some 102), none, .pick (.t 90) (.t 101) (.c (.bool false))⟩,
  ⟨(some 103), none, .mov (.t 102)⟩,
  ⟨(some 104), (some (103, true)), .fadr 1 (.t 15)⟩,
  ⟨(some 105), (some (103, true)), .ld (.t 104)⟩,
  ⟨(some 106), (some (103, true)), .mov (.t 2)⟩,
  ⟨(some 107), (some (103, true)), .bin .and 3 (.t 106) (.c (.int .i64 65535))⟩,
  ⟨(some 108), (some (103, true)), .bin .add 3 (.c (.int .i64 1)) (.t 107)⟩,
  ⟨(some 109), (some (103, true)), .fadr 0 (.t 15)⟩,
  ⟨(some 110), (some (103, true)), .ld (.t 109)⟩,
  ⟨(some 111), (some (103, true)), .bin .add 3 (.t 108) (.t 110)⟩,
  ⟨(some 112), (some (103, true)), .bin .eql 3 (.t 105) (.t 111)⟩,
  ⟨(some 113), none, .pick (.t 103) (.t 112) (.c (.bool false))⟩,
  ⟨(some 6), none, .mov (.t 113)⟩]
@[simp] def c_law5_HeadRow : IFn := ⟨(.seq (.reg c_law5_HeadRow_r0) (.seq (.seq (.reg c_law5_HeadRow_r1) (.cond (.t 18) (.seq (.reg c_law5_HeadRow_r2) .ret) .skip)) (.seq (.reg c_law5_HeadRow_r3) (.seq (.reg c_law5_HeadRow_r4) (.seq (.seq (.reg c_law5_HeadRow_r5) (.block 0 (.loop c_law5_HeadRow_l16))) (.seq (.reg c_law5_HeadRow_r17) (.seq (.reg c_law5_HeadRow_r18) .ret))))))), 114, [.tmp 6]⟩

theorem fc_law5_HeadRow : fnAt Try.prog f_law5_HeadRow = some c_law5_HeadRow := by kernel_rfl
@[simp] def c_law0_CopyDisk_r0 : List Ir := [⟨(some 1), none, .box 2 (.t 0)⟩,
  ⟨(some 2), none, .new [(.slice none 0 0), (.slice none 0 0)]⟩]
@[simp] def c_law0_CopyDisk_r1 : List Ir := [⟨(some 3), none, .mkrow 1 0 [] []⟩,
  ⟨(some 4), none, .fadr 0 (.t 1)⟩,
  ⟨(some 5), none, .ld (.t 4)⟩,
  ⟨(some 7), none, .mkrow 2 0 [] []⟩,
  ⟨(some 8), none, .fadr 1 (.t 1)⟩,
  ⟨(some 9), none, .ld (.t 8)⟩,
  ⟨(some 6), none, .app 1 16 (.t 3) (.t 5)⟩,
  ⟨(some 10), none, .app 2 24 (.t 7) (.t 9)⟩,
  ⟨(some 11), none, .build [(.slice none 0 0), (.slice none 0 0)] [(0, (1, (.t 6))), (1, (1, (.t 10)))]⟩,
  ⟨none, none, .st 2 (.t 2) (.t 11)⟩]
@[simp] def c_law0_CopyDisk : IFn := ⟨(.seq (.reg c_law0_CopyDisk_r0) (.seq (.regd c_law0_CopyDisk_r1 [(5, 6)]) .ret)), 12, [.ldn 2 2]⟩
-- function 23: not compiled

theorem fc_law0_CopyDisk : fnAt Try.prog f_law0_CopyDisk = some c_law0_CopyDisk := by kernel_rfl
@[simp] def c_ref1_Read_r0 : List Ir := [⟨(some 2), none, .box 2 (.t 0)⟩,
  ⟨(some 4), none, .mov (.c (.string ⟨#[]⟩))⟩,
  ⟨(some 5), none, .mov (.c (.int .i64 0))⟩]
@[simp] def c_ref1_Read_r1 : List Ir := [⟨(some 6), none, .ldn 2 (.t 2)⟩,
  ⟨(some 7), none, .call f_ref1_DiskMay [(.t 6)]⟩,
  ⟨(some 8), none, .un .not (.t 7)⟩,
  ⟨(some 9), none, .mov (.t 8)⟩,
  ⟨(some 10), (some (9, false)), .mov (.t 1)⟩,
  ⟨(some 11), (some (9, false)), .bin .lss 3 (.t 10) (.c (.int .i64 0))⟩,
  ⟨(some 12), none, .pick (.t 9) (.c (.bool true)) (.t 11)⟩,
  ⟨(some 13), none, .mov (.t 12)⟩,
  ⟨(some 14), (some (13, false)), .mov (.t 1)⟩,
  ⟨(some 15), (some (13, false)), .bin .geq 3 (.t 14) (.c (.int .i64 394))⟩,
  ⟨(some 16), none, .pick (.t 13) (.c (.bool true)) (.t 15)⟩]
@[simp] def c_ref1_Read_r2 : List Ir := [⟨(some 4), none, .mov (.c (.string ⟨#[]⟩))⟩,
  ⟨(some 5), none, .mov (.c (.int .i64 200))⟩]
@[simp] def c_ref1_Read_r3 : List Ir := [⟨(some 17), none, .ldn 2 (.t 2)⟩,
  ⟨(some 18), none, .mov (.t 1)⟩,
  ⟨(some 19), none, .call f_ref1_read [(.t 17), (.t 18)]⟩,
  ⟨(some 4), none, .mov (.t 19)⟩,
  ⟨(some 5), none, .mov (.c (.int .i64 0))⟩]
@[simp] def c_ref1_Read : IFn := ⟨(.seq (.reg c_ref1_Read_r0) (.seq (.seq (.reg c_ref1_Read_r1) (.cond (.t 16) (.seq (.reg c_ref1_Read_r2) .ret) .skip)) (.seq (.reg c_ref1_Read_r3) .ret))), 20, [.tmp 4, .tmp 5]⟩

theorem fc_ref1_Read : fnAt Try.prog f_ref1_Read = some c_ref1_Read := by kernel_rfl
@[simp] def c_disk_Do_r0 : List Ir := [⟨(some 2), none, .box 2 (.t 0)⟩,
  ⟨(some 3), none, .box 3 (.t 1)⟩,
  ⟨(some 4), none, .new [(.slice none 0 0), (.slice none 0 0)]⟩,
  ⟨(some 5), none, .mov (.c (.int .i64 0))⟩]
@[simp] def c_disk_Do_r1 : List Ir := [⟨(some 9), none, .ldn 2 (.t 2)⟩,
  ⟨(some 10), none, .call f_disk_May [(.t 9)]⟩,
  ⟨(some 11), none, .un .not (.t 10)⟩]
@[simp] def c_disk_Do_r2 : List Ir := [⟨(some 12), none, .build [(.slice none 0 0), (.slice none 0 0)] []⟩,
  ⟨none, none, .st 2 (.t 4) (.t 12)⟩,
  ⟨(some 5), none, .mov (.c (.int .i64 200))⟩]
@[simp] def c_disk_Do_r3 : List Ir := [⟨(some 13), none, .fadr 0 (.t 3)⟩,
  ⟨(some 14), none, .ld (.t 13)⟩,
  ⟨(some 15), none, .un .not (.t 14)⟩]
@[simp] def c_disk_Do_r4 : List Ir := [⟨(some 16), none, .fadr 1 (.t 3)⟩,
  ⟨(some 17), none, .ldn 2 (.t 16)⟩,
  ⟨(some 18), none, .call f_disk_may [(.t 17)]⟩,
  ⟨(some 19), none, .un .not (.t 18)⟩,
  ⟨(some 20), none, .mov (.t 19)⟩,
  ⟨(some 21), (some (20, false)), .fadr 1 (.t 2)⟩,
  ⟨(some 22), (some (20, false)), .ld (.t 21)⟩,
  ⟨(some 23), (some (20, false)), .lenV (.t 22)⟩,
  ⟨(some 24), (some (20, false)), .bin .eql 3 (.t 23) (.c (.int .i64 512))⟩,
  ⟨(some 25), none, .pick (.t 20) (.c (.bool true)) (.t 24)⟩]
@[simp] def c_disk_Do_r5 : List Ir := [⟨(some 26), none, .build [(.slice none 0 0), (.slice none 0 0)] []⟩,
  ⟨none, none, .st 2 (.t 4) (.t 26)⟩,
  ⟨(some 5), none, .mov (.c (.int .i64 200))⟩]
@[simp] def c_disk_Do_r6 : List Ir := [⟨(some 27), none, .fadr 0 (.t 2)⟩,
  ⟨(some 28), none, .ld (.t 27)⟩,
  ⟨(some 30), none, .fadr 1 (.t 2)⟩,
  ⟨(some 31), none, .ld (.t 30)⟩,
  ⟨(some 33), none, .fadr 1 (.t 3)⟩,
  ⟨(some 34), none, .ldn 2 (.t 33)⟩,
  ⟨(some 35), none, .mkrow 2 1 [(.int .i64 0), (.string ⟨#[]⟩)] [(0, (2, (.t 34)))]⟩,
  ⟨(some 29), none, .call f_slices_Clone_string_string [(.t 28)]⟩,
  ⟨(some 32), none, .call f_slices_Clone_Write [(.t 31)]⟩,
  ⟨(some 36), none, .app 2 24 (.t 32) (.t 35)⟩,
  ⟨(some 37), none, .build [(.slice none 0 0), (.slice none 0 0)] [(0, (1, (.t 29))), (1, (1, (.t 36)))]⟩,
  ⟨none, none, .st 2 (.t 4) (.t 37)⟩,
  ⟨(some 5), none, .mov (.c (.int .i64 0))⟩]
@[simp] def c_disk_Do_r7 : List Ir := [⟨(some 38), none, .fadr 1 (.t 3)⟩,
  ⟨(some 39), none, .ldn 2 (.t 38)⟩,
  ⟨(some 40), none, .build [(.int .i64 0), (.string ⟨#[]⟩)] []⟩,
  ⟨(some 41), none, .eqa true [.num .i64, .txt] (.t 39) (.t 40)⟩]
@[simp] def c_disk_Do_r8 : List Ir := [⟨(some 42), none, .build [(.slice none 0 0), (.slice none 0 0)] []⟩,
  ⟨none, none, .st 2 (.t 4) (.t 42)⟩,
  ⟨(some 5), none, .mov (.c (.int .i64 200))⟩]
@[simp] def c_disk_Do_r9 : List Ir := [⟨(some 43), none, .fadr 0 (.t 2)⟩,
  ⟨(some 44), none, .ld (.t 43)⟩,
  ⟨(some 45), none, .call f_slices_Clone_string_string [(.t 44)]⟩,
  ⟨(some 46), none, .build [(.slice none 0 0), (.slice none 0 0)] [(0, (1, (.t 45)))]⟩,
  ⟨(some 6), none, .new [(.slice none 0 0), (.slice none 0 0)]⟩,
  ⟨none, none, .st 2 (.t 6) (.t 46)⟩]
@[simp] def c_disk_Do_r10 : List Ir := [⟨(some 47), none, .fadr 1 (.t 2)⟩,
  ⟨(some 48), none, .ld (.t 47)⟩,
  ⟨(some 49), none, .lenV (.t 48)⟩,
  ⟨(some 50), none, .mov (.c (.int .i64 0))⟩]
@[simp] def c_disk_Do_r11 : List Ir := [⟨(some 51), none, .bin .lss 3 (.t 50) (.t 49)⟩]
@[simp] def c_disk_Do_r12 : List Ir := [⟨(some 52), none, .iadrS 2 (.t 48) (.t 50)⟩,
  ⟨(some 53), none, .ldn 2 (.t 52)⟩,
  ⟨(some 8), none, .new [(.int .i64 0), (.string ⟨#[]⟩)]⟩,
  ⟨none, none, .st 2 (.t 8) (.t 53)⟩]
@[simp] def c_disk_Do_r13 : List Ir := [⟨(some 54), none, .fadr 0 (.t 6)⟩,
  ⟨(some 55), none, .ld (.t 54)⟩,
  ⟨(some 56), none, .fadr 0 (.t 8)⟩,
  ⟨(some 57), none, .ld (.t 56)⟩,
  ⟨(some 58), none, .fadr 1 (.t 8)⟩,
  ⟨(some 59), none, .ld (.t 58)⟩,
  ⟨(some 60), none, .iadrS 1 (.t 55) (.t 57)⟩,
  ⟨none, none, .st 1 (.t 60) (.t 59)⟩]
@[simp] def c_disk_Do_r14 : List Ir := [⟨(some 61), none, .bin .add 3 (.t 50) (.c (.int .i64 1))⟩,
  ⟨(some 50), none, .mov (.t 61)⟩]
def c_disk_Do_l15 : IC := (.seq (.reg c_disk_Do_r11) (.seq (.cond (.t 51) .skip (.exit 0)) (.seq (.block 1 (.seq (.reg c_disk_Do_r12) (.reg c_disk_Do_r13))) (.reg c_disk_Do_r14))))
@[simp] def c_disk_Do_r16 : List Ir := [⟨(some 62), none, .ldn 2 (.t 6)⟩,
  ⟨none, none, .st 2 (.t 4) (.t 62)⟩,
  ⟨(some 5), none, .mov (.c (.int .i64 0))⟩]
@[simp] def c_disk_Do : IFn := ⟨(.seq (.reg c_disk_Do_r0) (.seq (.seq (.reg c_disk_Do_r1) (.cond (.t 11) (.seq (.reg c_disk_Do_r2) .ret) .skip)) (.seq (.seq (.reg c_disk_Do_r3) (.cond (.t 15) (.seq (.seq (.reg c_disk_Do_r4) (.cond (.t 25) (.seq (.reg c_disk_Do_r5) .ret) .skip)) (.seq (.regd c_disk_Do_r6 [(3, 7), (5, 7), (5, 8)]) .ret)) .skip)) (.seq (.seq (.reg c_disk_Do_r7) (.cond (.t 41) (.seq (.reg c_disk_Do_r8) .ret) .skip)) (.seq (.reg c_disk_Do_r9) (.seq (.seq (.reg c_disk_Do_r10) (.block 0 (.loop c_disk_Do_l15))) (.seq (.reg c_disk_Do_r16) .ret))))))), 63, [.ldn 4 2, .tmp 5]⟩

theorem fc_disk_Do : fnAt Try.prog f_disk_Do = some c_disk_Do := by kernel_rfl
@[simp] def c_ref1_Do_r0 : List Ir := [⟨(some 2), none, .box 2 (.t 0)⟩,
  ⟨(some 3), none, .box 3 (.t 1)⟩,
  ⟨(some 4), none, .new [(.slice none 0 0), (.slice none 0 0)]⟩,
  ⟨(some 5), none, .mov (.c (.int .i64 0))⟩]
@[simp] def c_ref1_Do_r1 : List Ir := [⟨(some 8), none, .ldn 2 (.t 2)⟩,
  ⟨(some 9), none, .call f_ref1_DiskMay [(.t 8)]⟩,
  ⟨(some 10), none, .un .not (.t 9)⟩,
  ⟨(some 11), none, .mov (.t 10)⟩,
  ⟨(some 12), (some (11, false)), .fadr 0 (.t 3)⟩,
  ⟨(some 13), (some (11, false)), .ld (.t 12)⟩,
  ⟨(some 14), (some (11, false)), .mov (.t 13)⟩,
  ⟨(some 15), (some (14, true)), .fadr 1 (.t 3)⟩,
  ⟨(some 16), (some (14, true)), .ldn 2 (.t 15)⟩,
  ⟨(some 17), (some (14, true)), .build [(.int .i64 0), (.string ⟨#[]⟩)] []⟩,
  ⟨(some 18), (some (14, true)), .eqa true [.num .i64, .txt] (.t 16) (.t 17)⟩,
  ⟨(some 19), (some (11, false)), .pick (.t 14) (.t 18) (.c (.bool false))⟩,
  ⟨(some 20), none, .pick (.t 11) (.c (.bool true)) (.t 19)⟩,
  ⟨(some 21), none, .mov (.t 20)⟩,
  ⟨(some 22), (some (21, false)), .fadr 0 (.t 3)⟩,
  ⟨(some 23), (some (21, false)), .ld (.t 22)⟩,
  ⟨(some 24), (some (21, false)), .un .not (.t 23)⟩,
  ⟨(some 25), (some (21, false)), .mov (.t 24)⟩,
  ⟨(some 26), (some (25, true)), .fadr 1 (.t 3)⟩,
  ⟨(some 27), (some (25, true)), .ldn 2 (.t 26)⟩,
  ⟨(some 28), (some (25, true)), .call f_ref1_writeMay [(.t 27)]⟩,
  ⟨(some 29), (some (25, true)), .un .not (.t 28)⟩,
  ⟨(some 30), (some (25, true)), .mov (.t 29)⟩,
  ⟨(some 31), (some (30, false)), .fadr 1 (.t 2)⟩,
  ⟨(some 32), (some (30, false)), .ld (.t 31)⟩,
  ⟨(some 33), (some (30, false)), .lenV (.t 32)⟩,
  ⟨(some 34), (some (30, false)), .bin .geq 3 (.t 33) (.c (.int .i64 512))⟩,
  ⟨(some 35), (some (25, true)), .pick (.t 30) (.c (.bool true)) (.t 34)⟩,
  ⟨(some 36), (some (21, false)), .pick (.t 25) (.t 35) (.c (.bool false))⟩,
  ⟨(some 37), none, .pick (.t 21) (.c (.bool true)) (.t 36)⟩]
@[simp] def c_ref1_Do_r2 : List Ir := [⟨(some 38), none, .build [(.slice none 0 0), (.slice none 0 0)] []⟩,
  ⟨none, none, .st 2 (.t 4) (.t 38)⟩,
  ⟨(some 5), none, .mov (.c (.int .i64 200))⟩]
@[simp] def c_ref1_Do_r3 : List Ir := [⟨(some 39), none, .ldn 2 (.t 2)⟩,
  ⟨(some 40), none, .call f_ref1_CopyDisk [(.t 39)]⟩,
  ⟨(some 6), none, .new [(.slice none 0 0), (.slice none 0 0)]⟩,
  ⟨none, none, .st 2 (.t 6) (.t 40)⟩]
@[simp] def c_ref1_Do_r4 : List Ir := [⟨(some 41), none, .fadr 0 (.t 3)⟩,
  ⟨(some 42), none, .ld (.t 41)⟩,
  ⟨(some 43), none, .un .not (.t 42)⟩]
@[simp] def c_ref1_Do_r5 : List Ir := [⟨(some 44), none, .fadr 1 (.t 6)⟩,
  ⟨(some 45), none, .ld (.t 44)⟩,
  ⟨(some 46), none, .fadr 1 (.t 3)⟩,
  ⟨(some 47), none, .ldn 2 (.t 46)⟩,
  ⟨(some 48), none, .mkrow 2 1 [(.int .i64 0), (.string ⟨#[]⟩)] [(0, (2, (.t 47)))]⟩,
  ⟨(some 49), none, .app 2 24 (.t 45) (.t 48)⟩,
  ⟨(some 50), none, .fadr 1 (.t 6)⟩,
  ⟨none, none, .st 1 (.t 50) (.t 49)⟩]
@[simp] def c_ref1_Do_r6 : List Ir := [⟨(some 51), none, .ldn 2 (.t 6)⟩,
  ⟨none, none, .st 2 (.t 4) (.t 51)⟩,
  ⟨(some 5), none, .mov (.c (.int .i64 0))⟩]
@[simp] def c_ref1_Do_r7 : List Ir := [⟨(some 7), none, .mov (.c (.int .i64 0))⟩]
@[simp] def c_ref1_Do_r8 : List Ir := [⟨(some 52), none, .mov (.t 7)⟩,
  ⟨(some 53), none, .fadr 1 (.t 2)⟩,
  ⟨(some 54), none, .ld (.t 53)⟩,
  ⟨(some 55), none, .lenV (.t 54)⟩,
  ⟨(some 56), none, .bin .lss 3 (.t 52) (.t 55)⟩]
@[simp] def c_ref1_Do_r9 : List Ir := [⟨(some 59), none, .fadr 0 (.t 6)⟩,
  ⟨(some 60), none, .ld (.t 59)⟩,
  ⟨(some 61), none, .fadr 1 (.t 2)⟩,
  ⟨(some 62), none, .ld (.t 61)⟩,
  ⟨(some 63), none, .mov (.t 7)⟩,
  ⟨(some 64), none, .iadrS 2 (.t 62) (.t 63)⟩,
  ⟨(some 65), none, .fadr 0 (.t 64)⟩,
  ⟨(some 66), none, .ld (.t 65)⟩,
  ⟨(some 67), none, .fadr 1 (.t 2)⟩,
  ⟨(some 68), none, .ld (.t 67)⟩,
  ⟨(some 69), none, .mov (.t 7)⟩,
  ⟨(some 70), none, .iadrS 2 (.t 68) (.t 69)⟩,
  ⟨(some 71), none, .fadr 1 (.t 70)⟩,
  ⟨(some 72), none, .ld (.t 71)⟩,
  ⟨(some 73), none, .iadrS 1 (.t 60) (.t 66)⟩,
  ⟨none, none, .st 1 (.t 73) (.t 72)⟩]
@[simp] def c_ref1_Do_r10 : List Ir := [⟨(some 57), none, .mov (.t 7)⟩,
  ⟨(some 58), none, .bin .add 3 (.t 57) (.c (.int .i64 1))⟩,
  ⟨(some 7), none, .mov (.t 58)⟩]
def c_ref1_Do_l11 : IC := (.seq (.seq (.reg c_ref1_Do_r8) (.cond (.t 56) .skip (.exit 0))) (.seq (.block 1 (.regd c_ref1_Do_r9 [])) (.reg c_ref1_Do_r10)))
@[simp] def c_ref1_Do_r12 : List Ir := [⟨(some 74), none, .fadr 1 (.t 6)⟩,
  ⟨none, none, .st 1 (.t 74) (.c (.slice none 0 0))⟩]
@[simp] def c_ref1_Do_r13 : List Ir := [⟨(some 75), none, .ldn 2 (.t 6)⟩,
  ⟨none, none, .st 2 (.t 4) (.t 75)⟩,
  ⟨(some 5), none, .mov (.c (.int .i64 0))⟩]
@[simp] def c_ref1_Do : IFn := ⟨(.seq (.reg c_ref1_Do_r0) (.seq (.seq (.reg c_ref1_Do_r1) (.cond (.t 37) (.seq (.reg c_ref1_Do_r2) .ret) .skip)) (.seq (.reg c_ref1_Do_r3) (.seq (.seq (.reg c_ref1_Do_r4) (.cond (.t 43) (.seq (.reg c_ref1_Do_r5) (.seq (.reg c_ref1_Do_r6) .ret)) .skip)) (.seq (.seq (.reg c_ref1_Do_r7) (.block 0 (.loop c_ref1_Do_l11))) (.seq (.reg c_ref1_Do_r12) (.seq (.reg c_ref1_Do_r13) .ret))))))), 76, [.ldn 4 2, .tmp 5]⟩

theorem fc_ref1_Do : fnAt Try.prog f_ref1_Do = some c_ref1_Do := by kernel_rfl
@[simp] def c_disk_Crash_r0 : List Ir := [⟨(some 4), none, .box 2 (.t 0)⟩,
  ⟨(some 8), none, .new [(.slice none 0 0), (.slice none 0 0)]⟩,
  ⟨(some 9), none, .mov (.c (.int .i64 0))⟩]
@[simp] def c_disk_Crash_r1 : List Ir := [⟨(some 14), none, .ldn 2 (.t 4)⟩,
  ⟨(some 15), none, .call f_disk_May [(.t 14)]⟩,
  ⟨(some 16), none, .un .not (.t 15)⟩,
  ⟨(some 17), none, .mov (.t 16)⟩,
  ⟨(some 18), (some (17, false)), .mov (.t 3)⟩,
  ⟨(some 19), (some (17, false)), .bin .lss 3 (.t 18) (.c (.int .i64 0))⟩,
  ⟨(some 20), none, .pick (.t 17) (.c (.bool true)) (.t 19)⟩,
  ⟨(some 21), none, .mov (.t 20)⟩,
  ⟨(some 22), (some (21, false)), .mov (.t 3)⟩,
  ⟨(some 23), (some (21, false)), .bin .gtr 3 (.t 22) (.c (.int .i64 64))⟩,
  ⟨(some 24), none, .pick (.t 21) (.c (.bool true)) (.t 23)⟩]
@[simp] def c_disk_Crash_r2 : List Ir := [⟨(some 25), none, .build [(.slice none 0 0), (.slice none 0 0)] []⟩,
  ⟨none, none, .st 2 (.t 8) (.t 25)⟩,
  ⟨(some 9), none, .mov (.c (.int .i64 200))⟩]
@[simp] def c_disk_Crash_r3 : List Ir := [⟨(some 26), none, .fadr 0 (.t 4)⟩,
  ⟨(some 27), none, .ld (.t 26)⟩,
  ⟨(some 28), none, .call f_slices_Clone_string_string [(.t 27)]⟩,
  ⟨(some 29), none, .build [(.slice none 0 0), (.slice none 0 0)] [(0, (1, (.t 28)))]⟩,
  ⟨(some 10), none, .new [(.slice none 0 0), (.slice none 0 0)]⟩,
  ⟨none, none, .st 2 (.t 10) (.t 29)⟩]
@[simp] def c_disk_Crash_r4 : List Ir := [⟨(some 30), none, .fadr 1 (.t 4)⟩,
  ⟨(some 31), none, .ld (.t 30)⟩,
  ⟨(some 32), none, .lenV (.t 31)⟩,
  ⟨(some 33), none, .mov (.c (.int .i64 0))⟩]
@[simp] def c_disk_Crash_r5 : List Ir := [⟨(some 34), none, .bin .lss 3 (.t 33) (.t 32)⟩]
@[simp] def c_disk_Crash_r6 : List Ir := [⟨(some 35), none, .mov (.t 33)⟩,
  ⟨(some 36), none, .iadrS 2 (.t 31) (.t 33)⟩,
  ⟨(some 37), none, .ldn 2 (.t 36)⟩,
  ⟨(some 12), none, .new [(.int .i64 0), (.string ⟨#[]⟩)]⟩,
  ⟨(some 11), none, .mov (.t 35)⟩,
  ⟨none, none, .st 2 (.t 12) (.t 37)⟩]
@[simp] def c_disk_Crash_r7 : List Ir := [⟨(some 38), none, .fadr 0 (.t 10)⟩,
  ⟨(some 39), none, .ld (.t 38)⟩,
  ⟨(some 40), none, .fadr 0 (.t 12)⟩,
  ⟨(some 41), none, .ld (.t 40)⟩,
  ⟨(some 42), none, .iadrS 1 (.t 39) (.t 41)⟩,
  ⟨(some 13), none, .mov (.t 42)⟩]
@[simp] def c_disk_Crash_r8 : List Ir := [⟨(some 44), none, .mov (.t 11)⟩,
  ⟨(some 45), none, .mov (.t 2)⟩,
  ⟨(some 46), none, .bin .eql 3 (.t 44) (.t 45)⟩,
  ⟨(some 43), none, .mov (.t 46)⟩]
@[simp] def c_disk_Crash_r9 : List Ir := [⟨(some 48), none, .mov (.t 13)⟩,
  ⟨(some 49), none, .mov (.t 13)⟩,
  ⟨(some 50), none, .nilck (.t 49)⟩,
  ⟨(some 51), none, .ld (.t 50)⟩,
  ⟨(some 52), none, .fadr 1 (.t 12)⟩,
  ⟨(some 53), none, .ld (.t 52)⟩,
  ⟨(some 54), none, .mov (.t 3)⟩,
  ⟨(some 55), none, .call f_pair_Torn [(.t 51), (.t 53), (.t 54)]⟩,
  ⟨(some 47), none, .mov (.t 55)⟩,
  ⟨(some 56), none, .ext 0 (.t 47)⟩,
  ⟨(some 57), none, .ext 1 (.t 47)⟩,
  ⟨(some 58), none, .nilck (.t 48)⟩,
  ⟨none, none, .st 1 (.t 58) (.t 56)⟩]
@[simp] def c_disk_Crash_r10 : List Ir := [⟨(some 60), none, .mov (.t 11)⟩,
  ⟨(some 61), none, .mov (.t 1)⟩,
  ⟨(some 62), none, .lenS (.t 61)⟩,
  ⟨(some 63), none, .bin .lss 3 (.t 60) (.t 62)⟩,
  ⟨(some 64), none, .mov (.t 63)⟩,
  ⟨(some 65), (some (64, true)), .mov (.t 1)⟩,
  ⟨(some 66), (some (64, true)), .mov (.t 11)⟩,
  ⟨(some 67), (some (64, true)), .idxS (.t 65) (.t 66)⟩,
  ⟨(some 68), (some (64, true)), .bin .rem 5 (.t 67) (.c (.int .u8 2))⟩,
  ⟨(some 69), (some (64, true)), .bin .eql 5 (.t 68) (.c (.int .u8 1))⟩,
  ⟨(some 70), none, .pick (.t 64) (.t 69) (.c (.bool false))⟩,
  ⟨(some 59), none, .mov (.t 70)⟩]
@[simp] def c_disk_Crash_r11 : List Ir := [⟨(some 71), none, .mov (.t 13)⟩,
  ⟨(some 72), none, .fadr 1 (.t 12)⟩,
  ⟨(some 73), none, .ld (.t 72)⟩,
  ⟨(some 74), none, .nilck (.t 71)⟩,
  ⟨none, none, .st 1 (.t 74) (.t 73)⟩]
@[simp] def c_disk_Crash_r12 : List Ir := [⟨(some 75), none, .bin .add 3 (.t 33) (.c (.int .i64 1))⟩,
  ⟨(some 33), none, .mov (.t 75)⟩]
def c_disk_Crash_l13 : IC := (.seq (.reg c_disk_Crash_r5) (.seq (.cond (.t 34) .skip (.exit 0)) (.seq (.block 1 (.seq (.reg c_disk_Crash_r6) (.seq (.reg c_disk_Crash_r7) (.block 2 (.seq (.reg c_disk_Crash_r8) (.cond (.t 43) (.regd c_disk_Crash_r9 []) (.seq (.reg c_disk_Crash_r10) (.cond (.t 59) (.reg c_disk_Crash_r11) .skip)))))))) (.reg c_disk_Crash_r12))))
@[simp] def c_disk_Crash_r14 : List Ir := [⟨(some 76), none, .ldn 2 (.t 10)⟩,
  ⟨none, none, .st 2 (.t 8) (.t 76)⟩,
  ⟨(some 9), none, .mov (.c (.int .i64 0))⟩]
@[simp] def c_disk_Crash : IFn := ⟨(.seq (.reg c_disk_Crash_r0) (.seq (.seq (.reg c_disk_Crash_r1) (.cond (.t 24) (.seq (.reg c_disk_Crash_r2) .ret) .skip)) (.seq (.reg c_disk_Crash_r3) (.seq (.seq (.reg c_disk_Crash_r4) (.block 0 (.loop c_disk_Crash_l13))) (.seq (.reg c_disk_Crash_r14) .ret))))), 77, [.ldn 8 2, .tmp 9]⟩

theorem fc_disk_Crash : fnAt Try.prog f_disk_Crash = some c_disk_Crash := by kernel_rfl
end Go.AM
