import Derived.Test.YtiiliffoclejlaaAm2
import Derived.Test.YtiiliffoclejlaaProg
import Derived.KernelRfl
namespace Go.AM
open Go.Proofs
set_option maxRecDepth 1000000
abbrev tyInt : TypeId := 3
abbrev tyStr : TypeId := 9
abbrev tyBool : TypeId := 4
abbrev tyU8 : TypeId := 5
abbrev tyUint : TypeId := 55
abbrev tyStrs : TypeId := 22
abbrev tyWrs : TypeId := 23
abbrev tyImgs : TypeId := 64
abbrev tySteps : TypeId := 67
abbrev tyRecs : TypeId := 131
abbrev f_law2_Disks : FuncId := 3
abbrev f_law2_DiskFlushed : FuncId := 4
abbrev f_law2_DiskForms : FuncId := 5
abbrev f_law2_DiskLast : FuncId := 6
abbrev f_law2_DiskTorn : FuncId := 7
abbrev f_law2_DiskSubset : FuncId := 8
abbrev f_law8_Plans : FuncId := 9
abbrev f_law8_PlanCrash : FuncId := 10
abbrev f_law8_PlanForms : FuncId := 11
abbrev f_law8_PlanFresh : FuncId := 12
abbrev f_law8_PlanAgain : FuncId := 13
abbrev f_law8_PlanRow : FuncId := 14
abbrev f_law7_Opens : FuncId := 15
abbrev f_law7_OpenSame : FuncId := 16
abbrev f_law7_OpenRows : FuncId := 17
abbrev f_law7_OpenHead : FuncId := 18
abbrev f_law7_OpenTorn : FuncId := 19
abbrev f_law1_PairForms : FuncId := 20
abbrev f_law5_HeadRow : FuncId := 21
abbrev f_law0_CopyDisk : FuncId := 22
abbrev f_disk_Read : FuncId := 23
abbrev f_ref1_Read : FuncId := 24
abbrev f_disk_Do : FuncId := 25
abbrev f_ref1_Do : FuncId := 26
abbrev f_disk_Crash : FuncId := 27
abbrev f_ref1_Crash : FuncId := 28
abbrev f_law0_Num : FuncId := 29
abbrev f_law0_SameDisk : FuncId := 30
abbrev f_disk_May : FuncId := 31
abbrev f_ref1_DiskMay : FuncId := 32
abbrev f_law0_SpoilDisk : FuncId := 33
abbrev f_disk_New : FuncId := 34
abbrev f_ref1_NewDisk : FuncId := 35
abbrev f_law2_awake : FuncId := 36
abbrev f_law2_sector : FuncId := 37
abbrev f_law0_CopyPager : FuncId := 38
abbrev f_law0_LendImages : FuncId := 39
abbrev f_plan_Fresh : FuncId := 40
abbrev f_ref1_Fresh : FuncId := 41
abbrev f_plan_Commit : FuncId := 42
abbrev f_ref1_Commit : FuncId := 43
abbrev f_law0_SameSteps : FuncId := 44
abbrev f_law0_SamePager : FuncId := 45
abbrev f_plan_May : FuncId := 46
abbrev f_ref1_PagerMay : FuncId := 47
abbrev f_plan_Format : FuncId := 48
abbrev f_ref1_Format : FuncId := 49
abbrev f_law0_SpoilSteps : FuncId := 50
abbrev f_law0_SpoilPager : FuncId := 51
abbrev f_law0_KeptImages : FuncId := 52
abbrev f_law8_awake : FuncId := 53
abbrev f_ref1_ImagesMay : FuncId := 54
abbrev f_law8_done : FuncId := 55
abbrev f_ref1_Open : FuncId := 56
abbrev f_law0_SameTexts : FuncId := 57
abbrev f_ref1_Blank : FuncId := 58
abbrev f_open_Open : FuncId := 59
abbrev f_open_Blank : FuncId := 60
abbrev f_law7_awake : FuncId := 61
abbrev f_law7_done : FuncId := 62
abbrev f_law1_awake : FuncId := 63
abbrev f_pair_Put : FuncId := 64
abbrev f_law1_half : FuncId := 65
abbrev f_pair_Get : FuncId := 66
abbrev f_law1_zeros : FuncId := 67
abbrev f_pair_Torn : FuncId := 68
abbrev f_law5_awake : FuncId := 69
abbrev f_head_Put : FuncId := 70
abbrev f_ref1_PutPair : FuncId := 71
abbrev f_head_Best : FuncId := 72
abbrev f_disk_has : FuncId := 73
abbrev f_slices_Backward_Write : FuncId := 74
abbrev f_ref1_read : FuncId := 75
abbrev f_disk_may : FuncId := 76
abbrev f_slices_Clone_string_string : FuncId := 77
abbrev f_slices_Clone_Write : FuncId := 78
abbrev f_ref1_writeMay : FuncId := 79
abbrev f_ref1_CopyDisk : FuncId := 80
abbrev f_ref1_Torn : FuncId := 81
abbrev f_law0_SameWrites : FuncId := 82
abbrev f_disk_May_1 : FuncId := 83
abbrev f_disk_May_2 : FuncId := 84
abbrev f_slices_ContainsFunc_string_string : FuncId := 85
abbrev f_slices_ContainsFunc_Write : FuncId := 86
abbrev f_law0_SpoilTexts : FuncId := 87
abbrev f_law0_SpoilWrites : FuncId := 88
abbrev f_slices_Repeat_string_string : FuncId := 89
abbrev f_strings_Repeat : FuncId := 90
abbrev f_ref1_zeros : FuncId := 91
abbrev f_law0_CopyImages : FuncId := 92
abbrev f_plan_may : FuncId := 93
abbrev f_log_Parts : FuncId := 94
abbrev f_plan_steps_record : FuncId := 95
abbrev f_open_Home : FuncId := 96
abbrev f_plan_steps_flush : FuncId := 97
abbrev f_plan_steps_head : FuncId := 98
abbrev f_ref1_roomy : FuncId := 99
abbrev f_ref1_PutRecord : FuncId := 100
abbrev f_ref1_part : FuncId := 101
abbrev f_ref1_write : FuncId := 102
abbrev f_ref1_home : FuncId := 103
abbrev f_ref1_headStep : FuncId := 104
abbrev f_log_Images : FuncId := 105
abbrev f_log_Count : FuncId := 106
abbrev f_log_Make : FuncId := 107
abbrev f_ref1_Make : FuncId := 108
abbrev f_plan_May_1 : FuncId := 109
abbrev f_head_May : FuncId := 110
abbrev f_record_Seq : FuncId := 111
abbrev f_ref1_textMay : FuncId := 112
abbrev f_ref1_HeadMay : FuncId := 113
abbrev f_ref1_seqMay : FuncId := 114
abbrev f_law0_SameImages : FuncId := 115
abbrev f_ref1_Best : FuncId := 116
abbrev f_ref1_homeText : FuncId := 117
abbrev f_ref1_GetPair : FuncId := 118
abbrev f_ref1_Scan : FuncId := 119
abbrev f_open_home : FuncId := 120
abbrev f_open_whole : FuncId := 121
abbrev f_log_Scan : FuncId := 122
abbrev f_head_Get : FuncId := 123
abbrev f_record_Fill : FuncId := 124
abbrev f_record_Four : FuncId := 125
abbrev f_head_of : FuncId := 126
abbrev f_slices_Backward_Write_1 : FuncId := 127
abbrev f_slices_IndexFunc_string_string : FuncId := 128
abbrev f_slices_IndexFunc_Write : FuncId := 129
abbrev f_math_bits_Mul : FuncId := 130
abbrev f_record_Put : FuncId := 136
abbrev f_plan_steps_write : FuncId := 137
abbrev f_ref1_RecordMay : FuncId := 138
abbrev f_ref1_Num : FuncId := 139
abbrev f_ref1_PutHead : FuncId := 140
abbrev f_record_Page : FuncId := 141
abbrev f_ref1_sectorHead : FuncId := 142
abbrev f_ref1_GetRecord : FuncId := 143
abbrev f_ref1_one : FuncId := 144
abbrev f_record_Get : FuncId := 145
abbrev f_log_scanner_take : FuncId := 146
abbrev f_record_Number : FuncId := 147
abbrev f_math_bits_Mul32 : FuncId := 148
abbrev f_math_bits_Mul64 : FuncId := 149
abbrev f_record_May : FuncId := 153
abbrev f_ref1_GetHead : FuncId := 154
abbrev f_ref1_Of : FuncId := 155
abbrev f_log_scanner_commit : FuncId := 156
@[simp] def c_law8_PlanCrash_r0 : List Ir := [⟨(some 14), none, .mov (.c (.bool false))⟩]
@[simp] def c_law8_PlanCrash_r1 : List Ir := [⟨(some 35), none, .call f_law8_awake []⟩,
  ⟨(some 36), none, .un .not (.t 35)⟩]
@[simp] def c_law8_PlanCrash_r2 : List Ir := [⟨(some 14), none, .mov (.c (.bool false))⟩]
@[simp] def c_law8_PlanCrash_r3 : List Ir := [⟨(some 37), none, .mov (.t 0)⟩,
  ⟨(some 38), none, .call f_ref1_ImagesMay [(.t 37)]⟩,
  ⟨(some 39), none, .un .not (.t 38)⟩,
  ⟨(some 40), none, .mov (.t 39)⟩,
  ⟨(some 41), (some (40, false)), .mov (.t 1)⟩,
  ⟨(some 42), (some (40, false)), .call f_ref1_ImagesMay [(.t 41)]⟩,
  ⟨(some 43), (some (40, false)), .un .not (.t 42)⟩,
  ⟨(some 44), none, .pick (.t 40) (.c (.bool true)) (.t 43)⟩]
@[simp] def c_law8_PlanCrash_r4 : List Ir := [⟨(some 14), none, .mov (.c (.bool true))⟩]
@[simp] def c_law8_PlanCrash_r5 : List Ir := [⟨(some 46), none, .call f_ref1_NewDisk []⟩,
  ⟨(some 47), none, .call f_plan_Format []⟩,
  ⟨(some 48), none, .call f_law8_done [(.t 46), (.t 47)]⟩,
  ⟨(some 45), none, .mov (.t 48)⟩,
  ⟨(some 49), none, .ext 0 (.t 45)⟩,
  ⟨(some 50), none, .ext 1 (.t 45)⟩,
  ⟨(some 15), none, .new [(.slice none 0 0), (.slice none 0 0)]⟩,
  ⟨none, none, .st 2 (.t 15) (.t 49)⟩,
  ⟨(some 16), none, .mov (.t 50)⟩]
@[simp] def c_law8_PlanCrash_r6 : List Ir := [⟨(some 52), none, .ldn 2 (.t 15)⟩,
  ⟨(some 53), none, .call f_ref1_Open [(.t 52)]⟩,
  ⟨(some 51), none, .mov (.t 53)⟩,
  ⟨(some 54), none, .ext 0 (.t 51)⟩,
  ⟨(some 55), none, .ext 1 (.t 51)⟩,
  ⟨(some 17), none, .new [(.int .i64 0), (.int .i64 0), (.int .i64 0), (.int .i64 0), (.slice none 0 0)]⟩,
  ⟨none, none, .st 5 (.t 17) (.t 54)⟩,
  ⟨(some 18), none, .mov (.t 55)⟩]
@[simp] def c_law8_PlanCrash_r7 : List Ir := [⟨(some 19), none, .mov (.c (.int .i64 0))⟩]
@[simp] def c_law8_PlanCrash_r8 : List Ir := [⟨(some 56), none, .mov (.t 19)⟩,
  ⟨(some 57), none, .mov (.t 2)⟩,
  ⟨(some 58), none, .bin .and 3 (.t 57) (.c (.int .i64 7))⟩,
  ⟨(some 59), none, .bin .lss 3 (.t 56) (.t 58)⟩,
  ⟨(some 60), none, .mov (.t 59)⟩,
  ⟨(some 61), (some (60, true)), .mov (.t 16)⟩,
  ⟨(some 62), none, .pick (.t 60) (.t 61) (.c (.bool false))⟩,
  ⟨(some 63), none, .mov (.t 62)⟩,
  ⟨(some 64), (some (63, true)), .mov (.t 18)⟩,
  ⟨(some 65), (some (63, true)), .bin .eql 3 (.t 64) (.c (.int .i64 0))⟩,
  ⟨(some 66), none, .pick (.t 63) (.t 65) (.c (.bool false))⟩]
@[simp] def c_law8_PlanCrash_r9 : List Ir := [⟨(some 70), none, .ldn 5 (.t 17)⟩,
  ⟨(some 71), none, .mov (.t 0)⟩,
  ⟨(some 72), none, .call f_plan_Commit [(.t 70), (.t 71)]⟩,
  ⟨(some 69), none, .mov (.t 72)⟩,
  ⟨(some 73), none, .ext 0 (.t 69)⟩,
  ⟨(some 74), none, .ext 1 (.t 69)⟩,
  ⟨(some 75), none, .ext 2 (.t 69)⟩,
  ⟨(some 21), none, .new [(.int .i64 0), (.int .i64 0), (.int .i64 0), (.int .i64 0), (.slice none 0 0)]⟩,
  ⟨(some 20), none, .mov (.t 73)⟩,
  ⟨none, none, .st 5 (.t 21) (.t 74)⟩,
  ⟨(some 22), none, .mov (.t 75)⟩]
@[simp] def c_law8_PlanCrash_r10 : List Ir := [⟨(some 77), none, .ldn 2 (.t 15)⟩,
  ⟨(some 78), none, .mov (.t 20)⟩,
  ⟨(some 79), none, .call f_law8_done [(.t 77), (.t 78)]⟩,
  ⟨(some 76), none, .mov (.t 79)⟩,
  ⟨(some 80), none, .ext 0 (.t 76)⟩,
  ⟨(some 81), none, .ext 1 (.t 76)⟩,
  ⟨(some 23), none, .new [(.slice none 0 0), (.slice none 0 0)]⟩,
  ⟨none, none, .st 2 (.t 23) (.t 80)⟩,
  ⟨(some 24), none, .mov (.t 81)⟩]
@[simp] def c_law8_PlanCrash_r11 : List Ir := [⟨(some 82), none, .mov (.t 24)⟩,
  ⟨(some 83), none, .mov (.t 82)⟩,
  ⟨(some 84), (some (83, true)), .mov (.t 22)⟩,
  ⟨(some 85), (some (83, true)), .call f_law0_Num [(.t 84)]⟩,
  ⟨(some 86), (some (83, true)), .bin .eql 3 (.t 85) (.c (.int .i64 0))⟩,
  ⟨(some 87), none, .pick (.t 83) (.t 86) (.c (.bool false))⟩,
  ⟨(some 16), none, .mov (.t 87)⟩]
@[simp] def c_law8_PlanCrash_r12 : List Ir := [⟨(some 88), none, .ldn 2 (.t 23)⟩,
  ⟨none, none, .st 2 (.t 15) (.t 88)⟩]
@[simp] def c_law8_PlanCrash_r13 : List Ir := [⟨(some 89), none, .ldn 5 (.t 21)⟩,
  ⟨none, none, .st 5 (.t 17) (.t 89)⟩]
@[simp] def c_law8_PlanCrash_r14 : List Ir := [⟨(some 67), none, .mov (.t 19)⟩,
  ⟨(some 68), none, .bin .add 3 (.t 67) (.c (.int .i64 1))⟩,
  ⟨(some 19), none, .mov (.t 68)⟩]
def c_law8_PlanCrash_l15 : IC := (.seq (.seq (.reg c_law8_PlanCrash_r8) (.cond (.t 66) .skip (.exit 0))) (.seq (.block 1 (.seq (.reg c_law8_PlanCrash_r9) (.seq (.reg c_law8_PlanCrash_r10) (.seq (.reg c_law8_PlanCrash_r11) (.seq (.reg c_law8_PlanCrash_r12) (.reg c_law8_PlanCrash_r13)))))) (.reg c_law8_PlanCrash_r14)))
@[simp] def c_law8_PlanCrash_r16 : List Ir := [⟨(some 91), none, .ldn 5 (.t 17)⟩,
  ⟨(some 92), none, .mov (.t 1)⟩,
  ⟨(some 93), none, .call f_plan_Commit [(.t 91), (.t 92)]⟩,
  ⟨(some 90), none, .mov (.t 93)⟩,
  ⟨(some 94), none, .ext 0 (.t 90)⟩,
  ⟨(some 95), none, .ext 1 (.t 90)⟩,
  ⟨(some 96), none, .ext 2 (.t 90)⟩,
  ⟨(some 26), none, .new [(.int .i64 0), (.int .i64 0), (.int .i64 0), (.int .i64 0), (.slice none 0 0)]⟩,
  ⟨(some 25), none, .mov (.t 94)⟩,
  ⟨none, none, .st 5 (.t 26) (.t 95)⟩,
  ⟨(some 27), none, .mov (.t 96)⟩]
@[simp] def c_law8_PlanCrash_r17 : List Ir := [⟨(some 97), none, .mov (.t 16)⟩,
  ⟨(some 98), none, .un .not (.t 97)⟩,
  ⟨(some 99), none, .mov (.t 98)⟩,
  ⟨(some 100), (some (99, false)), .mov (.t 18)⟩,
  ⟨(some 101), (some (99, false)), .bin .neq 3 (.t 100) (.c (.int .i64 0))⟩,
  ⟨(some 102), none, .pick (.t 99) (.c (.bool true)) (.t 101)⟩,
  ⟨(some 103), none, .mov (.t 102)⟩,
  ⟨(some 104), (some (103, false)), .mov (.t 27)⟩,
  ⟨(some 105), (some (103, false)), .call f_law0_Num [(.t 104)]⟩,
  ⟨(some 106), (some (103, false)), .bin .neq 3 (.t 105) (.c (.int .i64 0))⟩,
  ⟨(some 107), none, .pick (.t 103) (.c (.bool true)) (.t 106)⟩]
@[simp] def c_law8_PlanCrash_r18 : List Ir := [⟨(some 14), none, .mov (.c (.bool false))⟩]
@[simp] def c_law8_PlanCrash_r19 : List Ir := [⟨(some 108), none, .mov (.t 3)⟩,
  ⟨(some 109), none, .ii .u64 (.t 108)⟩,
  ⟨(some 110), none, .mov (.t 25)⟩,
  ⟨(some 111), none, .lenV (.t 110)⟩,
  ⟨(some 112), none, .bin .add 3 (.t 111) (.c (.int .i64 1))⟩,
  ⟨(some 113), none, .ii .u64 (.t 112)⟩,
  ⟨(some 114), none, .bin .rem 55 (.t 109) (.t 113)⟩,
  ⟨(some 115), none, .ii .i64 (.t 114)⟩,
  ⟨(some 28), none, .mov (.t 115)⟩]
@[simp] def c_law8_PlanCrash_r20 : List Ir := [⟨(some 117), none, .ldn 2 (.t 15)⟩,
  ⟨(some 118), none, .mov (.t 25)⟩,
  ⟨(some 119), none, .mov (.t 28)⟩,
  ⟨(some 120), none, .slv 3 (.t 118) none (some (.t 119)) none⟩,
  ⟨(some 29), none, .new [(.slice none 0 0), (.slice none 0 0)]⟩,
  ⟨(some 121), none, .call f_law8_done [(.t 117), (.t 120)]⟩,
  ⟨(some 116), none, .mov (.t 121)⟩,
  ⟨(some 122), none, .ext 0 (.t 116)⟩,
  ⟨(some 123), none, .ext 1 (.t 116)⟩,
  ⟨none, none, .st 2 (.t 29) (.t 122)⟩,
  ⟨(some 30), none, .mov (.t 123)⟩]
@[simp] def c_law8_PlanCrash_r21 : List Ir := [⟨(some 125), none, .ldn 2 (.t 29)⟩,
  ⟨(some 126), none, .mov (.t 4)⟩,
  ⟨(some 127), none, .mov (.t 5)⟩,
  ⟨(some 128), none, .bin .and 3 (.t 127) (.c (.int .i64 255))⟩,
  ⟨(some 129), none, .mov (.t 6)⟩,
  ⟨(some 130), none, .bin .and 3 (.t 129) (.c (.int .i64 63))⟩,
  ⟨(some 131), none, .call f_ref1_Crash [(.t 125), (.t 126), (.t 128), (.t 130)]⟩,
  ⟨(some 124), none, .mov (.t 131)⟩,
  ⟨(some 132), none, .ext 0 (.t 124)⟩,
  ⟨(some 133), none, .ext 1 (.t 124)⟩,
  ⟨(some 31), none, .new [(.slice none 0 0), (.slice none 0 0)]⟩,
  ⟨none, none, .st 2 (.t 31) (.t 132)⟩,
  ⟨(some 32), none, .mov (.t 133)⟩]
@[simp] def c_law8_PlanCrash_r22 : List Ir := [⟨(some 135), none, .ldn 2 (.t 31)⟩,
  ⟨(some 136), none, .call f_ref1_Open [(.t 135)]⟩,
  ⟨(some 134), none, .mov (.t 136)⟩,
  ⟨(some 137), none, .ext 0 (.t 134)⟩,
  ⟨(some 138), none, .ext 1 (.t 134)⟩,
  ⟨(some 33), none, .new [(.int .i64 0), (.int .i64 0), (.int .i64 0), (.int .i64 0), (.slice none 0 0)]⟩,
  ⟨none, none, .st 5 (.t 33) (.t 137)⟩,
  ⟨(some 34), none, .mov (.t 138)⟩]
@[simp] def c_law8_PlanCrash_r23 : List Ir := [⟨(some 139), none, .mov (.t 30)⟩,
  ⟨(some 140), none, .un .not (.t 139)⟩,
  ⟨(some 141), none, .mov (.t 140)⟩,
  ⟨(some 142), (some (141, false)), .mov (.t 32)⟩,
  ⟨(some 143), (some (141, false)), .bin .neq 3 (.t 142) (.c (.int .i64 0))⟩,
  ⟨(some 144), none, .pick (.t 141) (.c (.bool true)) (.t 143)⟩,
  ⟨(some 145), none, .mov (.t 144)⟩,
  ⟨(some 146), (some (145, false)), .mov (.t 34)⟩,
  ⟨(some 147), (some (145, false)), .bin .neq 3 (.t 146) (.c (.int .i64 0))⟩,
  ⟨(some 148), none, .pick (.t 145) (.c (.bool true)) (.t 147)⟩]
@[simp] def c_law8_PlanCrash_r24 : List Ir := [⟨(some 14), none, .mov (.c (.bool false))⟩]
@[simp] def c_law8_PlanCrash_r25 : List Ir := [⟨(some 149), none, .mov (.t 28)⟩,
  ⟨(some 150), none, .mov (.t 25)⟩,
  ⟨(some 151), none, .lenV (.t 150)⟩,
  ⟨(some 152), none, .bin .eql 3 (.t 149) (.t 151)⟩]
@[simp] def c_law8_PlanCrash_r26 : List Ir := [⟨(some 153), none, .fadr 4 (.t 33)⟩,
  ⟨(some 154), none, .ld (.t 153)⟩,
  ⟨(some 155), none, .fadr 4 (.t 26)⟩,
  ⟨(some 156), none, .ld (.t 155)⟩,
  ⟨(some 157), none, .call f_law0_SameTexts [(.t 154), (.t 156)]⟩,
  ⟨(some 14), none, .mov (.t 157)⟩]
@[simp] def c_law8_PlanCrash_r27 : List Ir := [⟨(some 158), none, .fadr 4 (.t 33)⟩,
  ⟨(some 159), none, .ld (.t 158)⟩,
  ⟨(some 160), none, .fadr 4 (.t 17)⟩,
  ⟨(some 161), none, .ld (.t 160)⟩,
  ⟨(some 162), none, .call f_law0_SameTexts [(.t 159), (.t 161)]⟩,
  ⟨(some 163), none, .mov (.t 162)⟩,
  ⟨(some 164), (some (163, false)), .fadr 4 (.t 33)⟩,
  ⟨(some 165), (some (163, false)), .ld (.t 164)⟩,
  ⟨(some 166), (some (163, false)), .fadr 4 (.t 26)⟩,
  ⟨(some 167), (some (163, false)), .ld (.t 166)⟩,
  ⟨(some 168), (some (163, false)), .call f_law0_SameTexts [(.t 165), (.t 167)]⟩,
  ⟨(some 169), none, .pick (.t 163) (.c (.bool true)) (.t 168)⟩,
  ⟨(some 14), none, .mov (.t 169)⟩]
@[simp] def c_law8_PlanCrash : IFn := ⟨(.seq (.reg c_law8_PlanCrash_r0) (.seq (.seq (.reg c_law8_PlanCrash_r1) (.cond (.t 36) (.seq (.reg c_law8_PlanCrash_r2) .ret) .skip)) (.seq (.seq (.reg c_law8_PlanCrash_r3) (.cond (.t 44) (.seq (.reg c_law8_PlanCrash_r4) .ret) .skip)) (.seq (.reg c_law8_PlanCrash_r5) (.seq (.reg c_law8_PlanCrash_r6) (.seq (.seq (.reg c_law8_PlanCrash_r7) (.block 0 (.loop c_law8_PlanCrash_l15))) (.seq (.reg c_law8_PlanCrash_r16) (.seq (.seq (.reg c_law8_PlanCrash_r17) (.cond (.t 107) (.seq (.reg c_law8_PlanCrash_r18) .ret) .skip)) (.seq (.reg c_law8_PlanCrash_r19) (.seq (.regd c_law8_PlanCrash_r20 []) (.seq (.reg c_law8_PlanCrash_r21) (.seq (.reg c_law8_PlanCrash_r22) (.seq (.seq (.reg c_law8_PlanCrash_r23) (.cond (.t 148) (.seq (.reg c_law8_PlanCrash_r24) .ret) .skip)) (.seq (.seq (.reg c_law8_PlanCrash_r25) (.cond (.t 152) (.seq (.reg c_law8_PlanCrash_r26) .ret) .skip)) (.seq (.reg c_law8_PlanCrash_r27) .ret))))))))))))))), 170, [.tmp 14]⟩

theorem fc_law8_PlanCrash : fnAt Try.prog f_law8_PlanCrash = some c_law8_PlanCrash := by kernel_rfl
@[simp] def c_law5_HeadRow_r0 : List Ir := [⟨(some 6), none, .mov (.c (.bool false))⟩]
@[simp] def c_law5_HeadRow_r1 : List Ir := [⟨(some 17), none, .call f_law5_awake []⟩,
  ⟨(some 18), none, .un .not (.t 17)⟩]
@[simp] def c_law5_HeadRow_r2 : List Ir := [⟨(some 6), none, .mov (.c (.bool false))⟩]
@[simp] def c_law5_HeadRow_r3 : List Ir := [⟨(some 19), none, .mov (.t 0)⟩,
  ⟨(some 20), none, .bin .and 3 (.t 19) (.c (.int .i64 15))⟩,
  ⟨(some 21), none, .bin .add 3 (.c (.int .i64 1)) (.t 20)⟩,
  ⟨(some 7), none, .mov (.t 21)⟩]
@[simp] def c_law5_HeadRow_r4 : List Ir := [⟨(some 8), none, .new [(.string ⟨#[]⟩), (.string ⟨#[]⟩)]⟩]
@[simp] def c_law5_HeadRow_r5 : List Ir := [⟨(some 9), none, .mov (.c (.int .i64 0))⟩]
@[simp] def c_law5_HeadRow_r6 : List Ir := [⟨(some 22), none, .mov (.t 9)⟩,
  ⟨(some 23), none, .mov (.t 7)⟩,
  ⟨(some 24), none, .bin .leq 3 (.t 22) (.t 23)⟩]
@[simp] def c_law5_HeadRow_r7 : List Ir := [⟨(some 28), none, .mov (.t 9)⟩,
  ⟨(some 29), none, .mov (.t 2)⟩,
  ⟨(some 30), none, .bin .and 3 (.t 29) (.c (.int .i64 65535))⟩,
  ⟨(some 31), none, .bin .add 3 (.c (.int .i64 1)) (.t 30)⟩,
  ⟨(some 32), none, .mov (.t 9)⟩,
  ⟨(some 33), none, .bin .add 3 (.t 31) (.t 32)⟩,
  ⟨(some 34), none, .build [(.int .i64 0), (.int .i64 0)] [(0, (1, (.t 28))), (1, (1, (.t 33)))]⟩,
  ⟨(some 35), none, .call f_head_Put [(.t 34)]⟩,
  ⟨(some 27), none, .mov (.t 35)⟩,
  ⟨(some 36), none, .ext 0 (.t 27)⟩,
  ⟨(some 37), none, .ext 1 (.t 27)⟩,
  ⟨(some 10), none, .mov (.t 36)⟩,
  ⟨(some 11), none, .mov (.t 37)⟩]
@[simp] def c_law5_HeadRow_r8 : List Ir := [⟨(some 39), none, .mov (.t 10)⟩,
  ⟨(some 40), none, .call f_ref1_PutPair [(.t 39)]⟩,
  ⟨(some 38), none, .mov (.t 40)⟩,
  ⟨(some 41), none, .ext 0 (.t 38)⟩,
  ⟨(some 42), none, .ext 1 (.t 38)⟩,
  ⟨(some 12), none, .mov (.t 41)⟩,
  ⟨(some 13), none, .mov (.t 42)⟩]
@[simp] def c_law5_HeadRow_r9 : List Ir := [⟨(some 43), none, .mov (.t 11)⟩,
  ⟨(some 44), none, .call f_law0_Num [(.t 43)]⟩,
  ⟨(some 45), none, .bin .neq 3 (.t 44) (.c (.int .i64 0))⟩,
  ⟨(some 46), none, .mov (.t 45)⟩,
  ⟨(some 47), (some (46, false)), .mov (.t 12)⟩,
  ⟨(some 48), (some (46, false)), .lenS (.t 47)⟩,
  ⟨(some 49), (some (46, false)), .bin .neq 3 (.t 48) (.c (.int .i64 64))⟩,
  ⟨(some 50), none, .pick (.t 46) (.c (.bool true)) (.t 49)⟩]
@[simp] def c_law5_HeadRow_r10 : List Ir := [⟨(some 6), none, .mov (.c (.bool false))⟩]
@[simp] def c_law5_HeadRow_r11 : List Ir := [⟨(some 51), none, .mov (.t 9)⟩,
  ⟨(some 52), none, .mov (.t 7)⟩,
  ⟨(some 53), none, .bin .eql 3 (.t 51) (.t 52)⟩,
  ⟨(some 54), none, .mov (.t 53)⟩,
  ⟨(some 55), (some (54, true)), .mov (.t 9)⟩,
  ⟨(some 56), (some (54, true)), .bin .and 3 (.t 55) (.c (.int .i64 1))⟩,
  ⟨(some 57), (some (54, true)), .iadrA 2 1 (.t 8) (.t 56)⟩,
  ⟨(some 58), (some (54, true)), .ld (.t 57)⟩,
  ⟨(some 59), (some (54, true)), .bin .neq 9 (.t 58) (.c (.string ⟨#[]⟩))⟩,
  ⟨(some 60), none, .pick (.t 54) (.t 59) (.c (.bool false))⟩]
@[simp] def c_law5_HeadRow_r12 : List Ir := [⟨(some 61), none, .mov (.t 1)⟩,
  ⟨(some 62), none, .ii .u64 (.t 61)⟩,
  ⟨(some 63), none, .bin .rem 55 (.t 62) (.c (.int .u64 65))⟩,
  ⟨(some 64), none, .ii .i64 (.t 63)⟩,
  ⟨(some 14), none, .mov (.t 64)⟩]
@[simp] def c_law5_HeadRow_r13 : List Ir := [⟨(some 65), none, .mov (.t 12)⟩,
  ⟨(some 66), none, .mov (.t 14)⟩,
  ⟨(some 67), none, .sls (.t 65) none (some (.t 66))⟩,
  ⟨(some 68), none, .mov (.t 9)⟩,
  ⟨(some 69), none, .bin .and 3 (.t 68) (.c (.int .i64 1))⟩,
  ⟨(some 70), none, .iadrA 2 1 (.t 8) (.t 69)⟩,
  ⟨(some 71), none, .ld (.t 70)⟩,
  ⟨(some 72), none, .mov (.t 14)⟩,
  ⟨(some 73), none, .sls (.t 71) (some (.t 72)) none⟩,
  ⟨(some 74), none, .bin .add 9 (.t 67) (.t 73)⟩,
  ⟨(some 12), none, .mov (.t 74)⟩]
@[simp] def c_law5_HeadRow_r14 : List Ir := [⟨(some 75), none, .mov (.t 9)⟩,
  ⟨(some 76), none, .bin .and 3 (.t 75) (.c (.int .i64 1))⟩,
  ⟨(some 77), none, .mov (.t 12)⟩,
  ⟨(some 78), none, .iadrA 2 1 (.t 8) (.t 76)⟩,
  ⟨none, none, .st 1 (.t 78) (.t 77)⟩]
@[simp] def c_law5_HeadRow_r15 : List Ir := [⟨(some 25), none, .mov (.t 9)⟩,
  ⟨(some 26), none, .bin .add 3 (.t 25) (.c (.int .i64 1))⟩,
  ⟨(some 9), none, .mov (.t 26)⟩]
def c_law5_HeadRow_l16 : IC := (.seq (.seq (.reg c_law5_HeadRow_r6) (.cond (.t 24) .skip (.exit 0))) (.seq (.block 1 (.seq (.reg c_law5_HeadRow_r7) (.seq (.reg c_law5_HeadRow_r8) (.seq (.seq (.reg c_law5_HeadRow_r9) (.cond (.t 50) (.seq (.reg c_law5_HeadRow_r10) .ret) .skip)) (.seq (.seq (.reg c_law5_HeadRow_r11) (.cond (.t 60) (.seq (.reg c_law5_HeadRow_r12) (.regd c_law5_HeadRow_r13 [])) .skip)) (.reg c_law5_HeadRow_r14)))))) (.reg c_law5_HeadRow_r15)))
@[simp] def c_law5_HeadRow_r17 : List Ir := [⟨(some 80), none, .iadrA 2 1 (.t 8) (.c (.int .i64 0))⟩,
  ⟨(some 81), none, .ld (.t 80)⟩,
  ⟨(some 82), none, .iadrA 2 1 (.t 8) (.c (.int .i64 1))⟩,
  ⟨(some 83), none, .ld (.t 82)⟩,
  ⟨(some 84), none, .call f_head_Best [(.t 81), (.t 83)]⟩,
  ⟨(some 79), none, .mov (.t 84)⟩,
  ⟨(some 85), none, .ext 0 (.t 79)⟩,
  ⟨(some 86), none, .ext 1 (.t 79)⟩,
  ⟨(some 15), none, .new [(.int .i64 0), (.int .i64 0)]⟩,
  ⟨none, none, .st 2 (.t 15) (.t 85)⟩,
  ⟨(some 16), none, .mov (.t 86)⟩]
@[simp] def c_law5_HeadRow_r18 : List Ir := [⟨(some 87), none, .mov (.t 16)⟩,
  ⟨(some 88), none, .call f_law0_Num [(.t 87)]⟩,
  ⟨(some 89), none, .bin .eql 3 (.t 88) (.c (.int .i64 0))⟩,
  ⟨(some 90), none, .mov (.t 89)⟩,
  ⟨(some 91), (some (90, true)), .fadr 0 (.t 15)⟩,
  ⟨(some 92), (some (90, true)), .ld (.t 91)⟩,
  ⟨(some 93), (some (90, true)), .mov (.t 7)⟩,
  ⟨(some 94), (some (90, true)), .bin .eql 3 (.t 92) (.t 93)⟩,
  ⟨(some 95), (some (90, true)), .mov (.t 94)⟩,
  ⟨(some 96), (some (95, false)), .fadr 0 (.t 15)⟩,
  ⟨(some 97), (some (95, false)), .ld (.t 96)⟩,
  ⟨(some 98), (some (95, false)), .mov (.t 7)⟩,
  ⟨(some 99), (some (95, false)), .bin .sub 3 (.t 98) (.c (.int .i64 1))⟩,
  ⟨(some 100), (some (95, false)), .bin .eql 3 (.t 97) (.t 99)⟩,
  ⟨(some 101), (some (90, true)), .pick (.t 95) (.c (.bool true)) (.t 100)⟩,
  ⟨(some 102), none, .pick (.t 90) (.t 101) (.c (.bool false))⟩,
  ⟨(some 103), none, .mov (.t 102)⟩,
  ⟨(some 104), (some (103, true)), .fadr 1 (.t 15)⟩,
  ⟨(some 105), (some (103, true)), .ld (.t 104)⟩,
  ⟨(some 106), (some (103, true)), .mov (.t 2)⟩,
  ⟨(some 107), (some (103, true)), .bin .and 3 (.t 106) (.c (.int .i64 65535))⟩,
  ⟨(some 108), (some (103, true)), .bin .add 3 (.c (.int .i64 1)) (.t 107)⟩,
  ⟨(some 109), (some (103, true)), .fadr 0 (.t 15)⟩,
  ⟨(some 110), (some (103, true)), .ld (.t 109)⟩,
  ⟨(some 111), (some (103, true)), .bin .add 3 (.t 108) (.t 110)⟩,
  ⟨(some 112), (some (103, true)), .bin .eql 3 (.t 105) (.t 111)⟩,
  ⟨(some 113), none, .pick (.t 103) (.t 112) (.c (.bool false))⟩,
  ⟨(some 6), none, .mov (.t 113)⟩]
@[simp] def c_law5_HeadRow : IFn := ⟨(.seq (.reg c_law5_HeadRow_r0) (.seq (.seq (.reg c_law5_HeadRow_r1) (.cond (.t 18) (.seq (.reg c_law5_HeadRow_r2) .ret) .skip)) (.seq (.reg c_law5_HeadRow_r3) (.seq (.reg c_law5_HeadRow_r4) (.seq (.seq (.reg c_law5_HeadRow_r5) (.block 0 (.loop c_law5_HeadRow_l16))) (.seq (.reg c_law5_HeadRow_r17) (.seq (.reg c_law5_HeadRow_r18) .ret))))))), 114, [.tmp 6]⟩

theorem fc_law5_HeadRow : fnAt Try.prog f_law5_HeadRow = some c_law5_HeadRow := by kernel_rfl
@[simp] def c_law0_CopyDisk_r0 : List Ir := [⟨(some 1), none, .box 2 (.t 0)⟩,
  ⟨(some 2), none, .new [(.slice none 0 0), (.slice none 0 0)]⟩]
@[simp] def c_law0_CopyDisk_r1 : List Ir := [⟨(some 3), none, .mkrow 1 0 [] []⟩,
  ⟨(some 4), none, .fadr 0 (.t 1)⟩,
  ⟨(some 5), none, .ld (.t 4)⟩,
  ⟨(some 7), none, .mkrow 2 0 [] []⟩,
  ⟨(some 8), none, .fadr 1 (.t 1)⟩,
  ⟨(some 9), none, .ld (.t 8)⟩,
  ⟨(some 6), none, .app 1 16 (.t 3) (.t 5)⟩,
  ⟨(some 10), none, .app 2 24 (.t 7) (.t 9)⟩,
  ⟨(some 11), none, .build [(.slice none 0 0), (.slice none 0 0)] [(0, (1, (.t 6))), (1, (1, (.t 10)))]⟩,
  ⟨none, none, .st 2 (.t 2) (.t 11)⟩]
@[simp] def c_law0_CopyDisk : IFn := ⟨(.seq (.reg c_law0_CopyDisk_r0) (.seq (.regd c_law0_CopyDisk_r1 [(5, 6)]) .ret)), 12, [.ldn 2 2]⟩
-- function 23: not compiled

theorem fc_law0_CopyDisk : fnAt Try.prog f_law0_CopyDisk = some c_law0_CopyDisk := by kernel_rfl
@[simp] def c_ref1_Read_r0 : List Ir := [⟨(some 2), none, .box 2 (.t 0)⟩,
  ⟨(some 4), none, .mov (.c (.string ⟨#[]⟩))⟩,
  ⟨(some 5), none, .mov (.c (.int .i64 0))⟩]
@[simp] def c_ref1_Read_r1 : List Ir := [⟨(some 6), none, .ldn 2 (.t 2)⟩,
  ⟨(some 7), none, .call f_ref1_DiskMay [(.t 6)]⟩,
  ⟨(some 8), none, .un .not (.t 7)⟩,
  ⟨(some 9), none, .mov (.t 8)⟩,
  ⟨(some 10), (some (9, false)), .mov (.t 1)⟩,
  ⟨(some 11), (some (9, false)), .bin .lss 3 (.t 10) (.c (.int .i64 0))⟩,
  ⟨(some 12), none, .pick (.t 9) (.c (.bool true)) (.t 11)⟩,
  ⟨(some 13), none, .mov (.t 12)⟩,
  ⟨(some 14), (some (13, false)), .mov (.t 1)⟩,
  ⟨(some 15), (some (13, false)), .bin .geq 3 (.t 14) (.c (.int .i64 394))⟩,
  ⟨(some 16), none, .pick (.t 13) (.c (.bool true)) (.t 15)⟩]
@[simp] def c_ref1_Read_r2 : List Ir := [⟨(some 4), none, .mov (.c (.string ⟨#[]⟩))⟩,
  ⟨(some 5), none, .mov (.c (.int .i64 200))⟩]
@[simp] def c_ref1_Read_r3 : List Ir := [⟨(some 17), none, .ldn 2 (.t 2)⟩,
  ⟨(some 18), none, .mov (.t 1)⟩,
  ⟨(some 19), none, .call f_ref1_read [(.t 17), (.t 18)]⟩,
  ⟨(some 4), none, .mov (.t 19)⟩,
  ⟨(some 5), none, .mov (.c (.int .i64 0))⟩]
@[simp] def c_ref1_Read : IFn := ⟨(.seq (.reg c_ref1_Read_r0) (.seq (.seq (.reg c_ref1_Read_r1) (.cond (.t 16) (.seq (.reg c_ref1_Read_r2) .ret) .skip)) (.seq (.reg c_ref1_Read_r3) .ret))), 20, [.tmp 4, .tmp 5]⟩

theorem fc_ref1_Read : fnAt Try.prog f_ref1_Read = some c_ref1_Read := by kernel_rfl
@[simp] def c_disk_Do_r0 : List Ir := [⟨(some 2), none, .box 2 (.t 0)⟩,
  ⟨(some 3), none, .box 3 (.t 1)⟩,
  ⟨(some 4), none, .new [(.slice none 0 0), (.slice none 0 0)]⟩,
  ⟨(some 5), none, .mov (.c (.int .i64 0))⟩]
@[simp] def c_disk_Do_r1 : List Ir := [⟨(some 9), none, .ldn 2 (.t 2)⟩,
  ⟨(some 10), none, .call f_disk_May [(.t 9)]⟩,
  ⟨(some 11), none, .un .not (.t 10)⟩]
@[simp] def c_disk_Do_r2 : List Ir := [⟨(some 12), none, .build [(.slice none 0 0), (.slice none 0 0)] []⟩,
  ⟨none, none, .st 2 (.t 4) (.t 12)⟩,
  ⟨(some 5), none, .mov (.c (.int .i64 200))⟩]
@[simp] def c_disk_Do_r3 : List Ir := [⟨(some 13), none, .fadr 0 (.t 3)⟩,
  ⟨(some 14), none, .ld (.t 13)⟩,
  ⟨(some 15), none, .un .not (.t 14)⟩]
@[simp] def c_disk_Do_r4 : List Ir := [⟨(some 16), none, .fadr 1 (.t 3)⟩,
  ⟨(some 17), none, .ldn 2 (.t 16)⟩,
  ⟨(some 18), none, .call f_disk_may [(.t 17)]⟩,
  ⟨(some 19), none, .un .not (.t 18)⟩,
  ⟨(some 20), none, .mov (.t 19)⟩,
  ⟨(some 21), (some (20, false)), .fadr 1 (.t 2)⟩,
  ⟨(some 22), (some (20, false)), .ld (.t 21)⟩,
  ⟨(some 23), (some (20, false)), .lenV (.t 22)⟩,
  ⟨(some 24), (some (20, false)), .bin .eql 3 (.t 23) (.c (.int .i64 512))⟩,
  ⟨(some 25), none, .pick (.t 20) (.c (.bool true)) (.t 24)⟩]
@[simp] def c_disk_Do_r5 : List Ir := [⟨(some 26), none, .build [(.slice none 0 0), (.slice none 0 0)] []⟩,
  ⟨none, none, .st 2 (.t 4) (.t 26)⟩,
  ⟨(some 5), none, .mov (.c (.int .i64 200))⟩]
@[simp] def c_disk_Do_r6 : List Ir := [⟨(some 27), none, .fadr 0 (.t 2)⟩,
  ⟨(some 28), none, .ld (.t 27)⟩,
  ⟨(some 30), none, .fadr 1 (.t 2)⟩,
  ⟨(some 31), none, .ld (.t 30)⟩,
  ⟨(some 33), none, .fadr 1 (.t 3)⟩,
  ⟨(some 34), none, .ldn 2 (.t 33)⟩,
  ⟨(some 35), none, .mkrow 2 1 [(.int .i64 0), (.string ⟨#[]⟩)] [(0, (2, (.t 34)))]⟩,
  ⟨(some 29), none, .call f_slices_Clone_string_string [(.t 28)]⟩,
  ⟨(some 32), none, .call f_slices_Clone_Write [(.t 31)]⟩,
  ⟨(some 36), none, .app 2 24 (.t 32) (.t 35)⟩,
  ⟨(some 37), none, .build [(.slice none 0 0), (.slice none 0 0)] [(0, (1, (.t 29))), (1, (1, (.t 36)))]⟩,
  ⟨none, none, .st 2 (.t 4) (.t 37)⟩,
  ⟨(some 5), none, .mov (.c (.int .i64 0))⟩]
@[simp] def c_disk_Do_r7 : List Ir := [⟨(some 38), none, .fadr 1 (.t 3)⟩,
  ⟨(some 39), none, .ldn 2 (.t 38)⟩,
  ⟨(some 40), none, .build [(.int .i64 0), (.string ⟨#[]⟩)] []⟩,
  ⟨(some 41), none, .eqa true [.num .i64, .txt] (.t 39) (.t 40)⟩]
@[simp] def c_disk_Do_r8 : List Ir := [⟨(some 42), none, .build [(.slice none 0 0), (.slice none 0 0)] []⟩,
  ⟨none, none, .st 2 (.t 4) (.t 42)⟩,
  ⟨(some 5), none, .mov (.c (.int .i64 200))⟩]
@[simp] def c_disk_Do_r9 : List Ir := [⟨(some 43), none, .fadr 0 (.t 2)⟩,
  ⟨(some 44), none, .ld (.t 43)⟩,
  ⟨(some 45), none, .call f_slices_Clone_string_string [(.t 44)]⟩,
  ⟨(some 46), none, .build [(.slice none 0 0), (.slice none 0 0)] [(0, (1, (.t 45)))]⟩,
  ⟨(some 6), none, .new [(.slice none 0 0), (.slice none 0 0)]⟩,
  ⟨none, none, .st 2 (.t 6) (.t 46)⟩]
@[simp] def c_disk_Do_r10 : List Ir := [⟨(some 47), none, .fadr 1 (.t 2)⟩,
  ⟨(some 48), none, .ld (.t 47)⟩,
  ⟨(some 49), none, .lenV (.t 48)⟩,
  ⟨(some 50), none, .mov (.c (.int .i64 0))⟩]
@[simp] def c_disk_Do_r11 : List Ir := [⟨(some 51), none, .bin .lss 3 (.t 50) (.t 49)⟩]
@[simp] def c_disk_Do_r12 : List Ir := [⟨(some 52), none, .iadrS 2 (.t 48) (.t 50)⟩,
  ⟨(some 53), none, .ldn 2 (.t 52)⟩,
  ⟨(some 8), none, .new [(.int .i64 0), (.string ⟨#[]⟩)]⟩,
  ⟨none, none, .st 2 (.t 8) (.t 53)⟩]
@[simp] def c_disk_Do_r13 : List Ir := [⟨(some 54), none, .fadr 0 (.t 6)⟩,
  ⟨(some 55), none, .ld (.t 54)⟩,
  ⟨(some 56), none, .fadr 0 (.t 8)⟩,
  ⟨(some 57), none, .ld (.t 56)⟩,
  ⟨(some 58), none, .fadr 1 (.t 8)⟩,
  ⟨(some 59), none, .ld (.t 58)⟩,
  ⟨(some 60), none, .iadrS 1 (.t 55) (.t 57)⟩,
  ⟨none, none, .st 1 (.t 60) (.t 59)⟩]
@[simp] def c_disk_Do_r14 : List Ir := [⟨(some 61), none, .bin .add 3 (.t 50) (.c (.int .i64 1))⟩,
  ⟨(some 50), none, .mov (.t 61)⟩]
def c_disk_Do_l15 : IC := (.seq (.reg c_disk_Do_r11) (.seq (.cond (.t 51) .skip (.exit 0)) (.seq (.block 1 (.seq (.reg c_disk_Do_r12) (.reg c_disk_Do_r13))) (.reg c_disk_Do_r14))))
@[simp] def c_disk_Do_r16 : List Ir := [⟨(some 62), none, .ldn 2 (.t 6)⟩,
  ⟨none, none, .st 2 (.t 4) (.t 62)⟩,
  ⟨(some 5), none, .mov (.c (.int .i64 0))⟩]
@[simp] def c_disk_Do : IFn := ⟨(.seq (.reg c_disk_Do_r0) (.seq (.seq (.reg c_disk_Do_r1) (.cond (.t 11) (.seq (.reg c_disk_Do_r2) .ret) .skip)) (.seq (.seq (.reg c_disk_Do_r3) (.cond (.t 15) (.seq (.seq (.reg c_disk_Do_r4) (.cond (.t 25) (.seq (.reg c_disk_Do_r5) .ret) .skip)) (.seq (.regd c_disk_Do_r6 [(3, 7), (5, 7), (5, 8)]) .ret)) .skip)) (.seq (.seq (.reg c_disk_Do_r7) (.cond (.t 41) (.seq (.reg c_disk_Do_r8) .ret) .skip)) (.seq (.reg c_disk_Do_r9) (.seq (.seq (.reg c_disk_Do_r10) (.block 0 (.loop c_disk_Do_l15))) (.seq (.reg c_disk_Do_r16) .ret))))))), 63, [.ldn 4 2, .tmp 5]⟩

theorem fc_disk_Do : fnAt Try.prog f_disk_Do = some c_disk_Do := by kernel_rfl
@[simp] def c_ref1_Do_r0 : List Ir := [⟨(some 2), none, .box 2 (.t 0)⟩,
  ⟨(some 3), none, .box 3 (.t 1)⟩,
  ⟨(some 4), none, .new [(.slice none 0 0), (.slice none 0 0)]⟩,
  ⟨(some 5), none, .mov (.c (.int .i64 0))⟩]
@[simp] def c_ref1_Do_r1 : List Ir := [⟨(some 8), none, .ldn 2 (.t 2)⟩,
  ⟨(some 9), none, .call f_ref1_DiskMay [(.t 8)]⟩,
  ⟨(some 10), none, .un .not (.t 9)⟩,
  ⟨(some 11), none, .mov (.t 10)⟩,
  ⟨(some 12), (some (11, false)), .fadr 0 (.t 3)⟩,
  ⟨(some 13), (some (11, false)), .ld (.t 12)⟩,
  ⟨(some 14), (some (11, false)), .mov (.t 13)⟩,
  ⟨(some 15), (some (14, true)), .fadr 1 (.t 3)⟩,
  ⟨(some 16), (some (14, true)), .ldn 2 (.t 15)⟩,
  ⟨(some 17), (some (14, true)), .build [(.int .i64 0), (.string ⟨#[]⟩)] []⟩,
  ⟨(some 18), (some (14, true)), .eqa true [.num .i64, .txt] (.t 16) (.t 17)⟩,
  ⟨(some 19), (some (11, false)), .pick (.t 14) (.t 18) (.c (.bool false))⟩,
  ⟨(some 20), none, .pick (.t 11) (.c (.bool true)) (.t 19)⟩,
  ⟨(some 21), none, .mov (.t 20)⟩,
  ⟨(some 22), (some (21, false)), .fadr 0 (.t 3)⟩,
  ⟨(some 23), (some (21, false)), .ld (.t 22)⟩,
  ⟨(some 24), (some (21, false)), .un .not (.t 23)⟩,
  ⟨(some 25), (some (21, false)), .mov (.t 24)⟩,
  ⟨(some 26), (some (25, true)), .fadr 1 (.t 3)⟩,
  ⟨(some 27), (some (25, true)), .ldn 2 (.t 26)⟩,
  ⟨(some 28), (some (25, true)), .call f_ref1_writeMay [(.t 27)]⟩,
  ⟨(some 29), (some (25, true)), .un .not (.t 28)⟩,
  ⟨(some 30), (some (25, true)), .mov (.t 29)⟩,
  ⟨(some 31), (some (30, false)), .fadr 1 (.t 2)⟩,
  ⟨(some 32), (some (30, false)), .ld (.t 31)⟩,
  ⟨(some 33), (some (30, false)), .lenV (.t 32)⟩,
  ⟨(some 34), (some (30, false)), .bin .geq 3 (.t 33) (.c (.int .i64 512))⟩,
  ⟨(some 35), (some (25, true)), .pick (.t 30) (.c (.bool true)) (.t 34)⟩,
  ⟨(some 36), (some (21, false)), .pick (.t 25) (.t 35) (.c (.bool false))⟩,
  ⟨(some 37), none, .pick (.t 21) (.c (.bool true)) (.t 36)⟩]
@[simp] def c_ref1_Do_r2 : List Ir := [⟨(some 38), none, .build [(.slice none 0 0), (.slice none 0 0)] []⟩,
  ⟨none, none, .st 2 (.t 4) (.t 38)⟩,
  ⟨(some 5), none, .mov (.c (.int .i64 200))⟩]
@[simp] def c_ref1_Do_r3 : List Ir := [⟨(some 39), none, .ldn 2 (.t 2)⟩,
  ⟨(some 40), none, .call f_ref1_CopyDisk [(.t 39)]⟩,
  ⟨(some 6), none, .new [(.slice none 0 0), (.slice none 0 0)]⟩,
  ⟨none, none, .st 2 (.t 6) (.t 40)⟩]
@[simp] def c_ref1_Do_r4 : List Ir := [⟨(some 41), none, .fadr 0 (.t 3)⟩,
  ⟨(some 42), none, .ld (.t 41)⟩,
  ⟨(some 43), none, .un .not (.t 42)⟩]
@[simp] def c_ref1_Do_r5 : List Ir := [⟨(some 44), none, .fadr 1 (.t 6)⟩,
  ⟨(some 45), none, .ld (.t 44)⟩,
  ⟨(some 46), none, .fadr 1 (.t 3)⟩,
  ⟨(some 47), none, .ldn 2 (.t 46)⟩,
  ⟨(some 48), none, .mkrow 2 1 [(.int .i64 0), (.string ⟨#[]⟩)] [(0, (2, (.t 47)))]⟩,
  ⟨(some 49), none, .app 2 24 (.t 45) (.t 48)⟩,
  ⟨(some 50), none, .fadr 1 (.t 6)⟩,
  ⟨none, none, .st 1 (.t 50) (.t 49)⟩]
@[simp] def c_ref1_Do_r6 : List Ir := [⟨(some 51), none, .ldn 2 (.t 6)⟩,
  ⟨none, none, .st 2 (.t 4) (.t 51)⟩,
  ⟨(some 5), none, .mov (.c (.int .i64 0))⟩]
@[simp] def c_ref1_Do_r7 : List Ir := [⟨(some 7), none, .mov (.c (.int .i64 0))⟩]
@[simp] def c_ref1_Do_r8 : List Ir := [⟨(some 52), none, .mov (.t 7)⟩,
  ⟨(some 53), none, .fadr 1 (.t 2)⟩,
  ⟨(some 54), none, .ld (.t 53)⟩,
  ⟨(some 55), none, .lenV (.t 54)⟩,
  ⟨(some 56), none, .bin .lss 3 (.t 52) (.t 55)⟩]
@[simp] def c_ref1_Do_r9 : List Ir := [⟨(some 59), none, .fadr 0 (.t 6)⟩,
  ⟨(some 60), none, .ld (.t 59)⟩,
  ⟨(some 61), none, .fadr 1 (.t 2)⟩,
  ⟨(some 62), none, .ld (.t 61)⟩,
  ⟨(some 63), none, .mov (.t 7)⟩,
  ⟨(some 64), none, .iadrS 2 (.t 62) (.t 63)⟩,
  ⟨(some 65), none, .fadr 0 (.t 64)⟩,
  ⟨(some 66), none, .ld (.t 65)⟩,
  ⟨(some 67), none, .fadr 1 (.t 2)⟩,
  ⟨(some 68), none, .ld (.t 67)⟩,
  ⟨(some 69), none, .mov (.t 7)⟩,
  ⟨(some 70), none, .iadrS 2 (.t 68) (.t 69)⟩,
  ⟨(some 71), none, .fadr 1 (.t 70)⟩,
  ⟨(some 72), none, .ld (.t 71)⟩,
  ⟨(some 73), none, .iadrS 1 (.t 60) (.t 66)⟩,
  ⟨none, none, .st 1 (.t 73) (.t 72)⟩]
@[simp] def c_ref1_Do_r10 : List Ir := [⟨(some 57), none, .mov (.t 7)⟩,
  ⟨(some 58), none, .bin .add 3 (.t 57) (.c (.int .i64 1))⟩,
  ⟨(some 7), none, .mov (.t 58)⟩]
def c_ref1_Do_l11 : IC := (.seq (.seq (.reg c_ref1_Do_r8) (.cond (.t 56) .skip (.exit 0))) (.seq (.block 1 (.regd c_ref1_Do_r9 [])) (.reg c_ref1_Do_r10)))
@[simp] def c_ref1_Do_r12 : List Ir := [⟨(some 74), none, .fadr 1 (.t 6)⟩,
  ⟨none, none, .st 1 (.t 74) (.c (.slice none 0 0))⟩]
@[simp] def c_ref1_Do_r13 : List Ir := [⟨(some 75), none, .ldn 2 (.t 6)⟩,
  ⟨none, none, .st 2 (.t 4) (.t 75)⟩,
  ⟨(some 5), none, .mov (.c (.int .i64 0))⟩]
@[simp] def c_ref1_Do : IFn := ⟨(.seq (.reg c_ref1_Do_r0) (.seq (.seq (.reg c_ref1_Do_r1) (.cond (.t 37) (.seq (.reg c_ref1_Do_r2) .ret) .skip)) (.seq (.reg c_ref1_Do_r3) (.seq (.seq (.reg c_ref1_Do_r4) (.cond (.t 43) (.seq (.reg c_ref1_Do_r5) (.seq (.reg c_ref1_Do_r6) .ret)) .skip)) (.seq (.seq (.reg c_ref1_Do_r7) (.block 0 (.loop c_ref1_Do_l11))) (.seq (.reg c_ref1_Do_r12) (.seq (.reg c_ref1_Do_r13) .ret))))))), 76, [.ldn 4 2, .tmp 5]⟩

theorem fc_ref1_Do : fnAt Try.prog f_ref1_Do = some c_ref1_Do := by kernel_rfl
@[simp] def c_disk_Crash_r0 : List Ir := [⟨(some 4), none, .box 2 (.t 0)⟩,
  ⟨(some 8), none, .new [(.slice none 0 0), (.slice none 0 0)]⟩,
  ⟨(some 9), none, .mov (.c (.int .i64 0))⟩]
@[simp] def c_disk_Crash_r1 : List Ir := [⟨(some 14), none, .ldn 2 (.t 4)⟩,
  ⟨(some 15), none, .call f_disk_May [(.t 14)]⟩,
  ⟨(some 16), none, .un .not (.t 15)⟩,
  ⟨(some 17), none, .mov (.t 16)⟩,
  ⟨(some 18), (some (17, false)), .mov (.t 3)⟩,
  ⟨(some 19), (some (17, false)), .bin .lss 3 (.t 18) (.c (.int .i64 0))⟩,
  ⟨(some 20), none, .pick (.t 17) (.c (.bool true)) (.t 19)⟩,
  ⟨(some 21), none, .mov (.t 20)⟩,
  ⟨(some 22), (some (21, false)), .mov (.t 3)⟩,
  ⟨(some 23), (some (21, false)), .bin .gtr 3 (.t 22) (.c (.int .i64 64))⟩,
  ⟨(some 24), none, .pick (.t 21) (.c (.bool true)) (.t 23)⟩]
@[simp] def c_disk_Crash_r2 : List Ir := [⟨(some 25), none, .build [(.slice none 0 0), (.slice none 0 0)] []⟩,
  ⟨none, none, .st 2 (.t 8) (.t 25)⟩,
  ⟨(some 9), none, .mov (.c (.int .i64 200))⟩]
@[simp] def c_disk_Crash_r3 : List Ir := [⟨(some 26), none, .fadr 0 (.t 4)⟩,
  ⟨(some 27), none, .ld (.t 26)⟩,
  ⟨(some 28), none, .call f_slices_Clone_string_string [(.t 27)]⟩,
  ⟨(some 29), none, .build [(.slice none 0 0), (.slice none 0 0)] [(0, (1, (.t 28)))]⟩,
  ⟨(some 10), none, .new [(.slice none 0 0), (.slice none 0 0)]⟩,
  ⟨none, none, .st 2 (.t 10) (.t 29)⟩]
@[simp] def c_disk_Crash_r4 : List Ir := [⟨(some 30), none, .fadr 1 (.t 4)⟩,
  ⟨(some 31), none, .ld (.t 30)⟩,
  ⟨(some 32), none, .lenV (.t 31)⟩,
  ⟨(some 33), none, .mov (.c (.int .i64 0))⟩]
@[simp] def c_disk_Crash_r5 : List Ir := [⟨(some 34), none, .bin .lss 3 (.t 33) (.t 32)⟩]
@[simp] def c_disk_Crash_r6 : List Ir := [⟨(some 35), none, .mov (.t 33)⟩,
  ⟨(some 36), none, .iadrS 2 (.t 31) (.t 33)⟩,
  ⟨(some 37), none, .ldn 2 (.t 36)⟩,
  ⟨(some 12), none, .new [(.int .i64 0), (.string ⟨#[]⟩)]⟩,
  ⟨(some 11), none, .mov (.t 35)⟩,
  ⟨none, none, .st 2 (.t 12) (.t 37)⟩]
@[simp] def c_disk_Crash_r7 : List Ir := [⟨(some 38), none, .fadr 0 (.t 10)⟩,
  ⟨(some 39), none, .ld (.t 38)⟩,
  ⟨(some 40), none, .fadr 0 (.t 12)⟩,
  ⟨(some 41), none, .ld (.t 40)⟩,
  ⟨(some 42), none, .iadrS 1 (.t 39) (.t 41)⟩,
  ⟨(some 13), none, .mov (.t 42)⟩]
@[simp] def c_disk_Crash_r8 : List Ir := [⟨(some 44), none, .mov (.t 11)⟩,
  ⟨(some 45), none, .mov (.t 2)⟩,
  ⟨(some 46), none, .bin .eql 3 (.t 44) (.t 45)⟩,
  ⟨(some 43), none, .mov (.t 46)⟩]
@[simp] def c_disk_Crash_r9 : List Ir := [⟨(some 48), none, .mov (.t 13)⟩,
  ⟨(some 49), none, .mov (.t 13)⟩,
  ⟨(some 50), none, .nilck (.t 49)⟩,
  ⟨(some 51), none, .ld (.t 50)⟩,
  ⟨(some 52), none, .fadr 1 (.t 12)⟩,
  ⟨(some 53), none, .ld (.t 52)⟩,
  ⟨(some 54), none, .mov (.t 3)⟩,
  ⟨(some 55), none, .call f_pair_Torn [(.t 51), (.t 53), (.t 54)]⟩,
  ⟨(some 47), none, .mov (.t 55)⟩,
  ⟨(some 56), none, .ext 0 (.t 47)⟩,
  ⟨(some 57), none, .ext 1 (.t 47)⟩,
  ⟨(some 58), none, .nilck (.t 48)⟩,
  ⟨none, none, .st 1 (.t 58) (.t 56)⟩]
@[simp] def c_disk_Crash_r10 : List Ir := [⟨(some 60), none, .mov (.t 11)⟩,
  ⟨(some 61), none, .mov (.t 1)⟩,
  ⟨(some 62), none, .lenS (.t 61)⟩,
  ⟨(some 63), none, .bin .lss 3 (.t 60) (.t 62)⟩,
  ⟨(some 64), none, .mov (.t 63)⟩,
  ⟨(some 65), (some (64, true)), .mov (.t 1)⟩,
  ⟨(some 66), (some (64, true)), .mov (.t 11)⟩,
  ⟨(some 67), (some (64, true)), .idxS (.t 65) (.t 66)⟩,
  ⟨(some 68), (some (64, true)), .bin .rem 5 (.t 67) (.c (.int .u8 2))⟩,
  ⟨(some 69), (some (64, true)), .bin .eql 5 (.t 68) (.c (.int .u8 1))⟩,
  ⟨(some 70), none, .pick (.t 64) (.t 69) (.c (.bool false))⟩,
  ⟨(some 59), none, .mov (.t 70)⟩]
@[simp] def c_disk_Crash_r11 : List Ir := [⟨(some 71), none, .mov (.t 13)⟩,
  ⟨(some 72), none, .fadr 1 (.t 12)⟩,
  ⟨(some 73), none, .ld (.t 72)⟩,
  ⟨(some 74), none, .nilck (.t 71)⟩,
  ⟨none, none, .st 1 (.t 74) (.t 73)⟩]
@[simp] def c_disk_Crash_r12 : List Ir := [⟨(some 75), none, .bin .add 3 (.t 33) (.c (.int .i64 1))⟩,
  ⟨(some 33), none, .mov (.t 75)⟩]
def c_disk_Crash_l13 : IC := (.seq (.reg c_disk_Crash_r5) (.seq (.cond (.t 34) .skip (.exit 0)) (.seq (.block 1 (.seq (.reg c_disk_Crash_r6) (.seq (.reg c_disk_Crash_r7) (.block 2 (.seq (.reg c_disk_Crash_r8) (.cond (.t 43) (.regd c_disk_Crash_r9 []) (.seq (.reg c_disk_Crash_r10) (.cond (.t 59) (.reg c_disk_Crash_r11) .skip)))))))) (.reg c_disk_Crash_r12))))
@[simp] def c_disk_Crash_r14 : List Ir := [⟨(some 76), none, .ldn 2 (.t 10)⟩,
  ⟨none, none, .st 2 (.t 8) (.t 76)⟩,
  ⟨(some 9), none, .mov (.c (.int .i64 0))⟩]
@[simp] def c_disk_Crash : IFn := ⟨(.seq (.reg c_disk_Crash_r0) (.seq (.seq (.reg c_disk_Crash_r1) (.cond (.t 24) (.seq (.reg c_disk_Crash_r2) .ret) .skip)) (.seq (.reg c_disk_Crash_r3) (.seq (.seq (.reg c_disk_Crash_r4) (.block 0 (.loop c_disk_Crash_l13))) (.seq (.reg c_disk_Crash_r14) .ret))))), 77, [.ldn 8 2, .tmp 9]⟩

theorem fc_disk_Crash : fnAt Try.prog f_disk_Crash = some c_disk_Crash := by kernel_rfl
end Go.AM
