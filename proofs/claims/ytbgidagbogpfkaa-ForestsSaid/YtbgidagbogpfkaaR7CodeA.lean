import Derived.Test.YtbgidagbogpfkaaAg2
import Derived.Test.YtbgidagbogpfkaaProg
import Derived.KernelRfl
namespace Go.AM
open Go.Proofs
set_option maxRecDepth 1000000
abbrev tyInt : TypeId := 3
abbrev tyStr : TypeId := 9
abbrev tyBool : TypeId := 4
abbrev tyU8 : TypeId := 5
abbrev tyUint : TypeId := 49
abbrev tyStrs : TypeId := 56
abbrev tyInfos : TypeId := 22
abbrev tyFiles : TypeId := 43
abbrev f_law19_Forests : FuncId := 3
abbrev f_law19_ForestKept : FuncId := 4
abbrev f_law19_ForestForms : FuncId := 5
abbrev f_law19_ForestErrors : FuncId := 6
abbrev f_law19_ForestWrites : FuncId := 7
abbrev f_law19_ForestChild : FuncId := 8
abbrev f_law19_ForestFaults : FuncId := 9
abbrev f_law19_ForestCommits : FuncId := 10
abbrev f_law19_ForestRemoves : FuncId := 11
abbrev f_law0_CopyInfos : FuncId := 12
abbrev f_forest_Prepare : FuncId := 13
abbrev f_ref16_Prepare : FuncId := 14
abbrev f_forest_Commit : FuncId := 15
abbrev f_ref16_Commit : FuncId := 16
abbrev f_forest_Remove : FuncId := 17
abbrev f_ref16_Remove : FuncId := 18
abbrev f_forest_Label : FuncId := 19
abbrev f_ref16_Label : FuncId := 20
abbrev f_forest_Write : FuncId := 21
abbrev f_ref16_Write : FuncId := 22
abbrev f_forest_Delete : FuncId := 23
abbrev f_ref16_Delete : FuncId := 24
abbrev f_law0_SameInfos : FuncId := 25
abbrev f_law0_Num : FuncId := 26
abbrev f_forest_May : FuncId := 27
abbrev f_ref16_ForestMay : FuncId := 28
abbrev f_law0_SpoilInfos : FuncId := 29
abbrev f_law19_awake : FuncId := 30
abbrev f_law0_SameInfo : FuncId := 31
abbrev f_law19_given : FuncId := 32
abbrev f_forest_begin : FuncId := 33
abbrev f_forest_At : FuncId := 34
abbrev f_slices_Clone_File : FuncId := 35
abbrev f_slices_Insert_Info : FuncId := 36
abbrev f_ref16_At : FuncId := 37
abbrev f_ref16_NameMay : FuncId := 38
abbrev f_ref16_with : FuncId := 39
abbrev f_ref16_Copy : FuncId := 40
abbrev f_forest_named : FuncId := 41
abbrev f_slices_Delete_Info : FuncId := 42
abbrev f_ref16_active : FuncId := 43
abbrev f_ref16_without : FuncId := 44
abbrev f_slices_ContainsFunc_Info : FuncId := 45
abbrev f_forest_Remove_1 : FuncId := 46
abbrev f_snap_Label : FuncId := 47
abbrev f_forest_file : FuncId := 48
abbrev f_inode_Content : FuncId := 49
abbrev f_forest_FileAt : FuncId := 50
abbrev f_slices_Insert_File : FuncId := 51
abbrev f_ref16_fileAt : FuncId := 52
abbrev f_ref16_PathMay : FuncId := 53
abbrev f_slices_Delete_File : FuncId := 54
abbrev f_key_IsName : FuncId := 55
abbrev f_snap_Kind : FuncId := 56
abbrev f_forest_files : FuncId := 57
abbrev f_forest_rooted : FuncId := 58
abbrev f_ref16_infoMay : FuncId := 59
abbrev f_law0_SpoilFiles : FuncId := 60
abbrev f_law0_SameFiles : FuncId := 61
abbrev f_forest_Copy : FuncId := 62
abbrev f_slices_BinarySearchFunc_Info_string : FuncId := 63
abbrev f_forest_At_1 : FuncId := 64
abbrev f_strings_Compare : FuncId := 65
abbrev f_slices_overlaps_api_Info : FuncId := 66
abbrev f_slices_rotateRight_api_Info : FuncId := 67
abbrev f_ref16_word : FuncId := 68
abbrev f_slices_IndexFunc_Info : FuncId := 69
abbrev f_key_IsPath : FuncId := 70
abbrev f_slices_BinarySearchFunc_File_string : FuncId := 71
abbrev f_forest_FileAt_1 : FuncId := 72
abbrev f_slices_overlaps_api_File : FuncId := 73
abbrev f_slices_rotateRight_api_File : FuncId := 74
abbrev f_key_word : FuncId := 75
abbrev f_slices_Clone_Info : FuncId := 76
abbrev f_internal_bytealg_CompareString : FuncId := 77
abbrev f_slices_rotateLeft_api_Info : FuncId := 78
abbrev f_slices_rotateLeft_api_File : FuncId := 79
abbrev f_slices_Reverse_Info : FuncId := 81
abbrev f_slices_Reverse_File : FuncId := 82
@[simp] def c_law0_CopyInfos_r0 : List Ir := [⟨(some 2), none, .mov (.c (.slice none 0 0))⟩]
@[simp] def c_law0_CopyInfos_r1 : List Ir := [⟨(some 3), none, .mov (.c (.slice none 0 0))⟩]
@[simp] def c_law0_CopyInfos_r2 : List Ir := [⟨(some 4), none, .mov (.c (.int .i64 0))⟩]
@[simp] def c_law0_CopyInfos_r3 : List Ir := [⟨(some 6), none, .mov (.t 4)⟩,⟨(some 7), none, .mov (.t 0)⟩,⟨(some 8), none, .lenV (.t 7)⟩,⟨(some 9), none, .bin .lss 3 (.t 6) (.t 8)⟩]
@[simp] def c_law0_CopyInfos_r4 : List Ir := [⟨(some 12), none, .mov (.t 0)⟩,⟨(some 13), none, .mov (.t 4)⟩,⟨(some 14), none, .iadrS 5 (.t 12) (.t 13)⟩,⟨(some 15), none, .ldn 5 (.t 14)⟩,⟨(some 5), none, .new [(.string ⟨#[]⟩), (.int .i64 0), (.string ⟨#[]⟩), (.string ⟨#[]⟩), (.slice none 0 0)]⟩,⟨none, none, .st 5 (.t 5) (.t 15)⟩]
@[simp] def c_law0_CopyInfos_r5 : List Ir := [⟨(some 16), none, .mkrow 3 0 [] []⟩,⟨(some 17), none, .fadr 4 (.t 5)⟩,⟨(some 18), none, .ld (.t 17)⟩,⟨(some 19), none, .app 3 40 (.t 16) (.t 18)⟩,⟨(some 20), none, .fadr 4 (.t 5)⟩,⟨none, none, .st 1 (.t 20) (.t 19)⟩]
@[simp] def c_law0_CopyInfos_r6 : List Ir := [⟨(some 21), none, .mov (.t 3)⟩,⟨(some 22), none, .ldn 5 (.t 5)⟩,⟨(some 23), none, .mkrow 5 1 [(.string ⟨#[]⟩), (.int .i64 0), (.string ⟨#[]⟩), (.string ⟨#[]⟩), (.slice none 0 0)] [(0, (5, (.t 22)))]⟩,⟨(some 24), none, .app 5 80 (.t 21) (.t 23)⟩,⟨(some 3), none, .mov (.t 24)⟩]
@[simp] def c_law0_CopyInfos_r7 : List Ir := [⟨(some 10), none, .mov (.t 4)⟩,⟨(some 11), none, .bin .add 3 (.t 10) (.c (.int .i64 1))⟩,⟨(some 4), none, .mov (.t 11)⟩]
def c_law0_CopyInfos_l8 : IC := (.seq (.seq (.reg c_law0_CopyInfos_r3) (.cond (.t 9) .skip (.exit 0))) (.seq (.block 1 (.seq (.reg c_law0_CopyInfos_r4) (.seq (.reg c_law0_CopyInfos_r5) (.reg c_law0_CopyInfos_r6)))) (.reg c_law0_CopyInfos_r7)))
@[simp] def c_law0_CopyInfos_r9 : List Ir := [⟨(some 25), none, .mov (.t 3)⟩,⟨(some 2), none, .mov (.t 25)⟩]
@[simp] def c_law0_CopyInfos : IFn := ⟨(.seq (.reg c_law0_CopyInfos_r0) (.seq (.reg c_law0_CopyInfos_r1) (.seq (.seq (.reg c_law0_CopyInfos_r2) (.block 0 (.loop c_law0_CopyInfos_l8))) (.seq (.reg c_law0_CopyInfos_r9) .ret)))), 26, [.tmp 2]⟩

theorem fc_law0_CopyInfos : fnAt Try.prog f_law0_CopyInfos = some c_law0_CopyInfos := by kernel_rfl
@[simp] def c_forest_Prepare_r0 : List Ir := [⟨(some 8), none, .mov (.c (.slice none 0 0))⟩,⟨(some 9), none, .mov (.c (.int .i64 0))⟩]
@[simp] def c_forest_Prepare_r1 : List Ir := [⟨(some 19), none, .mov (.t 1)⟩,⟨(some 20), none, .mov (.t 2)⟩,⟨(some 21), none, .mkrow 1 2 [(.string ⟨#[]⟩), (.string ⟨#[]⟩)] [(0, (1, (.t 19))), (1, (1, (.t 20)))]⟩,⟨(some 10), none, .mov (.t 21)⟩]
@[simp] def c_forest_Prepare_r2 : List Ir := [⟨(some 22), none, .mov (.t 2)⟩,⟨(some 23), none, .bin .eql 9 (.t 22) (.c (.string ⟨#[]⟩))⟩]
@[simp] def c_forest_Prepare_r3 : List Ir := [⟨(some 24), none, .mov (.t 10)⟩,⟨(some 25), none, .slv 1 (.t 24) none (some (.c (.int .i64 1))) none⟩,⟨(some 10), none, .mov (.t 25)⟩]
@[simp] def c_forest_Prepare_r4 : List Ir := [⟨(some 27), none, .mov (.t 0)⟩,⟨(some 28), none, .mov (.t 10)⟩,⟨(some 29), none, .call f_forest_begin [(.t 27), (.t 28)]⟩,⟨(some 26), none, .mov (.t 29)⟩,⟨(some 30), none, .ext 0 (.t 26)⟩,⟨(some 31), none, .ext 1 (.t 26)⟩,⟨(some 11), none, .mov (.t 30)⟩,⟨(some 12), none, .mov (.t 31)⟩]
@[simp] def c_forest_Prepare_r5 : List Ir := [⟨(some 32), none, .mov (.t 12)⟩,⟨(some 33), none, .bin .neq 24 (.t 32) (.c (.int .i64 0))⟩]
@[simp] def c_forest_Prepare_r6 : List Ir := [⟨(some 34), none, .mov (.t 12)⟩,⟨(some 8), none, .mov (.c (.slice none 0 0))⟩,⟨(some 9), none, .mov (.t 34)⟩]
@[simp] def c_forest_Prepare_r7 : List Ir := [⟨(some 36), none, .mov (.t 11)⟩,⟨(some 37), none, .mov (.t 1)⟩,⟨(some 38), none, .call f_forest_At [(.t 36), (.t 37)]⟩,⟨(some 35), none, .mov (.t 38)⟩,⟨(some 39), none, .ext 0 (.t 35)⟩,⟨(some 40), none, .ext 1 (.t 35)⟩,⟨(some 13), none, .mov (.t 39)⟩,⟨(some 14), none, .mov (.t 40)⟩]
@[simp] def c_forest_Prepare_r8 : List Ir := [⟨(some 42), none, .mov (.t 11)⟩,⟨(some 43), none, .mov (.t 2)⟩,⟨(some 44), none, .call f_forest_At [(.t 42), (.t 43)]⟩,⟨(some 41), none, .mov (.t 44)⟩,⟨(some 45), none, .ext 0 (.t 41)⟩,⟨(some 46), none, .ext 1 (.t 41)⟩,⟨(some 15), none, .mov (.t 45)⟩,⟨(some 16), none, .mov (.t 46)⟩]
@[simp] def c_forest_Prepare_r9 : List Ir := [⟨(some 48), none, .mov (.t 3)⟩,⟨(some 49), none, .bin .neq 3 (.t 48) (.c (.int .i64 0))⟩,⟨(some 50), none, .mov (.t 49)⟩,⟨(some 51), (some (50, true)), .mov (.t 3)⟩,⟨(some 52), (some (50, true)), .bin .neq 3 (.t 51) (.c (.int .i64 1))⟩,⟨(some 53), none, .pick (.t 50) (.t 52) (.c (.bool false))⟩,⟨(some 47), none, .mov (.t 53)⟩]
@[simp] def c_forest_Prepare_r10 : List Ir := [⟨(some 8), none, .mov (.c (.slice none 0 0))⟩,⟨(some 9), none, .mov (.c (.int .i64 1905))⟩]
@[simp] def c_forest_Prepare_r11 : List Ir := [⟨(some 55), none, .mov (.t 14)⟩,⟨(some 54), none, .mov (.t 55)⟩]
@[simp] def c_forest_Prepare_r12 : List Ir := [⟨(some 8), none, .mov (.c (.slice none 0 0))⟩,⟨(some 9), none, .mov (.c (.int .i64 1902))⟩]
@[simp] def c_forest_Prepare_r13 : List Ir := [⟨(some 57), none, .mov (.t 2)⟩,⟨(some 58), none, .bin .neq 9 (.t 57) (.c (.string ⟨#[]⟩))⟩,⟨(some 59), none, .mov (.t 58)⟩,⟨(some 60), (some (59, true)), .mov (.t 16)⟩,⟨(some 61), (some (59, true)), .un .not (.t 60)⟩,⟨(some 62), (some (59, true)), .mov (.t 61)⟩,⟨(some 63), (some (62, false)), .mov (.t 11)⟩,⟨(some 64), (some (62, false)), .mov (.t 15)⟩,⟨(some 65), (some (62, false)), .iadrS 5 (.t 63) (.t 64)⟩,⟨(some 66), (some (62, false)), .fadr 1 (.t 65)⟩,⟨(some 67), (some (62, false)), .ld (.t 66)⟩,⟨(some 68), (some (62, false)), .bin .neq 3 (.t 67) (.c (.int .i64 2))⟩,⟨(some 69), (some (59, true)), .pick (.t 62) (.c (.bool true)) (.t 68)⟩,⟨(some 70), none, .pick (.t 59) (.t 69) (.c (.bool false))⟩,⟨(some 56), none, .mov (.t 70)⟩]
@[simp] def c_forest_Prepare_r14 : List Ir := [⟨(some 8), none, .mov (.c (.slice none 0 0))⟩,⟨(some 9), none, .mov (.c (.int .i64 1904))⟩]
@[simp] def c_forest_Prepare_r15 : List Ir := [⟨(some 72), none, .mov (.t 11)⟩,⟨(some 73), none, .lenV (.t 72)⟩,⟨(some 74), none, .bin .eql 3 (.t 73) (.c (.int .i64 6))⟩,⟨(some 71), none, .mov (.t 74)⟩]
@[simp] def c_forest_Prepare_r16 : List Ir := [⟨(some 8), none, .mov (.c (.slice none 0 0))⟩,⟨(some 9), none, .mov (.c (.int .i64 1910))⟩]
@[simp] def c_forest_Prepare_r17 : List Ir := [⟨(some 75), none, .mov (.t 1)⟩,⟨(some 76), none, .mov (.t 3)⟩,⟨(some 77), none, .mov (.t 2)⟩,⟨(some 78), none, .build [(.string ⟨#[]⟩), (.int .i64 0), (.string ⟨#[]⟩), (.string ⟨#[]⟩), (.slice none 0 0)] [(0, (1, (.t 75))), (1, (1, (.t 76))), (2, (1, (.t 77)))]⟩,⟨(some 17), none, .new [(.string ⟨#[]⟩), (.int .i64 0), (.string ⟨#[]⟩), (.string ⟨#[]⟩), (.slice none 0 0)]⟩,⟨none, none, .st 5 (.t 17) (.t 78)⟩]
@[simp] def c_forest_Prepare_r18 : List Ir := [⟨(some 79), none, .mov (.t 2)⟩,⟨(some 80), none, .bin .neq 9 (.t 79) (.c (.string ⟨#[]⟩))⟩]
@[simp] def c_forest_Prepare_r19 : List Ir := [⟨(some 81), none, .mov (.t 11)⟩,⟨(some 82), none, .mov (.t 15)⟩,⟨(some 83), none, .iadrS 5 (.t 81) (.t 82)⟩,⟨(some 84), none, .fadr 4 (.t 83)⟩,⟨(some 85), none, .ld (.t 84)⟩,⟨(some 86), none, .call f_slices_Clone_File [(.t 85)]⟩,⟨(some 87), none, .fadr 4 (.t 17)⟩,⟨none, none, .st 1 (.t 87) (.t 86)⟩]
@[simp] def c_forest_Prepare_r20 : List Ir := [⟨(some 88), none, .fadr 4 (.t 17)⟩,⟨(some 89), none, .ld (.t 88)⟩,⟨(some 90), none, .lenV (.t 89)⟩,⟨(some 91), none, .mov (.c (.int .i64 0))⟩]
@[simp] def c_forest_Prepare_r21 : List Ir := [⟨(some 92), none, .bin .lss 3 (.t 91) (.t 90)⟩]
@[simp] def c_forest_Prepare_r22 : List Ir := [⟨(some 93), none, .mov (.t 91)⟩,⟨(some 18), none, .mov (.t 93)⟩]
@[simp] def c_forest_Prepare_r23 : List Ir := [⟨(some 94), none, .fadr 4 (.t 17)⟩,⟨(some 95), none, .ld (.t 94)⟩,⟨(some 96), none, .mov (.t 18)⟩,⟨(some 97), none, .iadrS 3 (.t 95) (.t 96)⟩,⟨(some 98), none, .fadr 2 (.t 97)⟩,⟨none, none, .st 1 (.t 98) (.c (.bool false))⟩]
@[simp] def c_forest_Prepare_r24 : List Ir := [⟨(some 99), none, .bin .add 3 (.t 91) (.c (.int .i64 1))⟩,⟨(some 91), none, .mov (.t 99)⟩]
def c_forest_Prepare_l25 : IC := (.seq (.reg c_forest_Prepare_r21) (.seq (.cond (.t 92) .skip (.exit 1)) (.seq (.block 2 (.seq (.reg c_forest_Prepare_r22) (.reg c_forest_Prepare_r23))) (.reg c_forest_Prepare_r24))))
@[simp] def c_forest_Prepare_r26 : List Ir := [⟨(some 100), none, .mov (.t 11)⟩,⟨(some 101), none, .mov (.t 13)⟩,⟨(some 102), none, .ldn 5 (.t 17)⟩,⟨(some 103), none, .mkrow 5 1 [(.string ⟨#[]⟩), (.int .i64 0), (.string ⟨#[]⟩), (.string ⟨#[]⟩), (.slice none 0 0)] [(0, (5, (.t 102)))]⟩,⟨(some 104), none, .call f_slices_Insert_Info [(.t 100), (.t 101), (.t 103)]⟩,⟨(some 8), none, .mov (.t 104)⟩,⟨(some 9), none, .mov (.c (.int .i64 0))⟩]
@[simp] def c_forest_Prepare : IFn := ⟨(.seq (.reg c_forest_Prepare_r0) (.seq (.reg c_forest_Prepare_r1) (.seq (.seq (.reg c_forest_Prepare_r2) (.cond (.t 23) (.reg c_forest_Prepare_r3) .skip)) (.seq (.reg c_forest_Prepare_r4) (.seq (.seq (.reg c_forest_Prepare_r5) (.cond (.t 33) (.seq (.reg c_forest_Prepare_r6) .ret) .skip)) (.seq (.reg c_forest_Prepare_r7) (.seq (.reg c_forest_Prepare_r8) (.seq (.block 0 (.seq (.reg c_forest_Prepare_r9) (.cond (.t 47) (.seq (.reg c_forest_Prepare_r10) .ret) (.seq (.reg c_forest_Prepare_r11) (.cond (.t 54) (.seq (.reg c_forest_Prepare_r12) .ret) (.seq (.reg c_forest_Prepare_r13) (.cond (.t 56) (.seq (.reg c_forest_Prepare_r14) .ret) (.seq (.reg c_forest_Prepare_r15) (.cond (.t 71) (.seq (.reg c_forest_Prepare_r16) .ret) .skip))))))))) (.seq (.reg c_forest_Prepare_r17) (.seq (.seq (.reg c_forest_Prepare_r18) (.cond (.t 80) (.reg c_forest_Prepare_r19) .skip)) (.seq (.seq (.reg c_forest_Prepare_r20) (.block 1 (.loop c_forest_Prepare_l25))) (.seq (.reg c_forest_Prepare_r26) .ret)))))))))))), 105, [.tmp 8, .tmp 9]⟩

theorem fc_forest_Prepare : fnAt Try.prog f_forest_Prepare = some c_forest_Prepare := by kernel_rfl
@[simp] def c_ref16_Prepare_r0 : List Ir := [⟨(some 8), none, .mov (.c (.slice none 0 0))⟩,⟨(some 9), none, .mov (.c (.int .i64 0))⟩]
@[simp] def c_ref16_Prepare_r1 : List Ir := [⟨(some 14), none, .mov (.t 0)⟩,⟨(some 15), none, .mov (.t 2)⟩,⟨(some 16), none, .call f_ref16_At [(.t 14), (.t 15)]⟩,⟨(some 10), none, .mov (.t 16)⟩]
@[simp] def c_ref16_Prepare_r2 : List Ir := [⟨(some 18), none, .mov (.t 0)⟩,⟨(some 19), none, .call f_ref16_ForestMay [(.t 18)]⟩,⟨(some 20), none, .un .not (.t 19)⟩,⟨(some 17), none, .mov (.t 20)⟩]
@[simp] def c_ref16_Prepare_r3 : List Ir := [⟨(some 8), none, .mov (.c (.slice none 0 0))⟩,⟨(some 9), none, .mov (.c (.int .i64 1900))⟩]
@[simp] def c_ref16_Prepare_r4 : List Ir := [⟨(some 22), none, .mov (.t 1)⟩,⟨(some 23), none, .call f_ref16_NameMay [(.t 22)]⟩,⟨(some 24), none, .un .not (.t 23)⟩,⟨(some 25), none, .mov (.t 24)⟩,⟨(some 26), (some (25, false)), .mov (.t 2)⟩,⟨(some 27), (some (25, false)), .bin .neq 9 (.t 26) (.c (.string ⟨#[]⟩))⟩,⟨(some 28), (some (25, false)), .mov (.t 27)⟩,⟨(some 29), (some (28, true)), .mov (.t 2)⟩,⟨(some 30), (some (28, true)), .call f_ref16_NameMay [(.t 29)]⟩,⟨(some 31), (some (28, true)), .un .not (.t 30)⟩,⟨(some 32), (some (25, false)), .pick (.t 28) (.t 31) (.c (.bool false))⟩,⟨(some 33), none, .pick (.t 25) (.c (.bool true)) (.t 32)⟩,⟨(some 21), none, .mov (.t 33)⟩]
@[simp] def c_ref16_Prepare_r5 : List Ir := [⟨(some 8), none, .mov (.c (.slice none 0 0))⟩,⟨(some 9), none, .mov (.c (.int .i64 1901))⟩]
@[simp] def c_ref16_Prepare_r6 : List Ir := [⟨(some 35), none, .mov (.t 3)⟩,⟨(some 36), none, .bin .neq 3 (.t 35) (.c (.int .i64 0))⟩,⟨(some 37), none, .mov (.t 36)⟩,⟨(some 38), (some (37, true)), .mov (.t 3)⟩,⟨(some 39), (some (37, true)), .bin .neq 3 (.t 38) (.c (.int .i64 1))⟩,⟨(some 40), none, .pick (.t 37) (.t 39) (.c (.bool false))⟩,⟨(some 34), none, .mov (.t 40)⟩]
@[simp] def c_ref16_Prepare_r7 : List Ir := [⟨(some 8), none, .mov (.c (.slice none 0 0))⟩,⟨(some 9), none, .mov (.c (.int .i64 1905))⟩]
@[simp] def c_ref16_Prepare_r8 : List Ir := [⟨(some 42), none, .mov (.t 0)⟩,⟨(some 43), none, .mov (.t 1)⟩,⟨(some 44), none, .call f_ref16_At [(.t 42), (.t 43)]⟩,⟨(some 45), none, .bin .geq 3 (.t 44) (.c (.int .i64 0))⟩,⟨(some 41), none, .mov (.t 45)⟩]
@[simp] def c_ref16_Prepare_r9 : List Ir := [⟨(some 8), none, .mov (.c (.slice none 0 0))⟩,⟨(some 9), none, .mov (.c (.int .i64 1902))⟩]
@[simp] def c_ref16_Prepare_r10 : List Ir := [⟨(some 47), none, .mov (.t 2)⟩,⟨(some 48), none, .bin .neq 9 (.t 47) (.c (.string ⟨#[]⟩))⟩,⟨(some 49), none, .mov (.t 48)⟩,⟨(some 50), (some (49, true)), .mov (.t 10)⟩,⟨(some 51), (some (49, true)), .bin .lss 3 (.t 50) (.c (.int .i64 0))⟩,⟨(some 52), (some (49, true)), .mov (.t 51)⟩,⟨(some 53), (some (52, false)), .mov (.t 0)⟩,⟨(some 54), (some (52, false)), .mov (.t 10)⟩,⟨(some 55), (some (52, false)), .iadrS 5 (.t 53) (.t 54)⟩,⟨(some 56), (some (52, false)), .fadr 1 (.t 55)⟩,⟨(some 57), (some (52, false)), .ld (.t 56)⟩,⟨(some 58), (some (52, false)), .bin .neq 3 (.t 57) (.c (.int .i64 2))⟩,⟨(some 59), (some (49, true)), .pick (.t 52) (.c (.bool true)) (.t 58)⟩,⟨(some 60), none, .pick (.t 49) (.t 59) (.c (.bool false))⟩,⟨(some 46), none, .mov (.t 60)⟩]
@[simp] def c_ref16_Prepare_r11 : List Ir := [⟨(some 8), none, .mov (.c (.slice none 0 0))⟩,⟨(some 9), none, .mov (.c (.int .i64 1904))⟩]
@[simp] def c_ref16_Prepare_r12 : List Ir := [⟨(some 62), none, .mov (.t 0)⟩,⟨(some 63), none, .lenV (.t 62)⟩,⟨(some 64), none, .bin .geq 3 (.t 63) (.c (.int .i64 6))⟩,⟨(some 61), none, .mov (.t 64)⟩]
@[simp] def c_ref16_Prepare_r13 : List Ir := [⟨(some 8), none, .mov (.c (.slice none 0 0))⟩,⟨(some 9), none, .mov (.c (.int .i64 1910))⟩]
@[simp] def c_ref16_Prepare_r14 : List Ir := [⟨(some 65), none, .mov (.t 1)⟩,⟨(some 66), none, .mov (.t 3)⟩,⟨(some 67), none, .mov (.t 2)⟩,⟨(some 68), none, .build [(.string ⟨#[]⟩), (.int .i64 0), (.string ⟨#[]⟩), (.string ⟨#[]⟩), (.slice none 0 0)] [(0, (1, (.t 65))), (1, (1, (.t 66))), (2, (1, (.t 67)))]⟩,⟨(some 11), none, .new [(.string ⟨#[]⟩), (.int .i64 0), (.string ⟨#[]⟩), (.string ⟨#[]⟩), (.slice none 0 0)]⟩,⟨none, none, .st 5 (.t 11) (.t 68)⟩]
@[simp] def c_ref16_Prepare_r15 : List Ir := [⟨(some 69), none, .mov (.t 10)⟩,⟨(some 70), none, .bin .geq 3 (.t 69) (.c (.int .i64 0))⟩]
@[simp] def c_ref16_Prepare_r16 : List Ir := [⟨(some 12), none, .mov (.c (.int .i64 0))⟩]
@[simp] def c_ref16_Prepare_r17 : List Ir := [⟨(some 71), none, .mov (.t 12)⟩,⟨(some 72), none, .mov (.t 0)⟩,⟨(some 73), none, .mov (.t 10)⟩,⟨(some 74), none, .iadrS 5 (.t 72) (.t 73)⟩,⟨(some 75), none, .fadr 4 (.t 74)⟩,⟨(some 76), none, .ld (.t 75)⟩,⟨(some 77), none, .lenV (.t 76)⟩,⟨(some 78), none, .bin .lss 3 (.t 71) (.t 77)⟩]
@[simp] def c_ref16_Prepare_r18 : List Ir := [⟨(some 81), none, .mov (.t 0)⟩,⟨(some 82), none, .mov (.t 10)⟩,⟨(some 83), none, .iadrS 5 (.t 81) (.t 82)⟩,⟨(some 84), none, .fadr 4 (.t 83)⟩,⟨(some 85), none, .ld (.t 84)⟩,⟨(some 86), none, .mov (.t 12)⟩,⟨(some 87), none, .iadrS 3 (.t 85) (.t 86)⟩,⟨(some 88), none, .ldn 3 (.t 87)⟩,⟨(some 13), none, .new [(.string ⟨#[]⟩), (.string ⟨#[]⟩), (.bool false)]⟩,⟨none, none, .st 3 (.t 13) (.t 88)⟩]
@[simp] def c_ref16_Prepare_r19 : List Ir := [⟨(some 89), none, .fadr 2 (.t 13)⟩,⟨none, none, .st 1 (.t 89) (.c (.bool false))⟩]
@[simp] def c_ref16_Prepare_r20 : List Ir := [⟨(some 90), none, .fadr 4 (.t 11)⟩,⟨(some 91), none, .ld (.t 90)⟩,⟨(some 92), none, .ldn 3 (.t 13)⟩,⟨(some 93), none, .mkrow 3 1 [(.string ⟨#[]⟩), (.string ⟨#[]⟩), (.bool false)] [(0, (3, (.t 92)))]⟩,⟨(some 94), none, .app 3 40 (.t 91) (.t 93)⟩,⟨(some 95), none, .fadr 4 (.t 11)⟩,⟨none, none, .st 1 (.t 95) (.t 94)⟩]
@[simp] def c_ref16_Prepare_r21 : List Ir := [⟨(some 79), none, .mov (.t 12)⟩,⟨(some 80), none, .bin .add 3 (.t 79) (.c (.int .i64 1))⟩,⟨(some 12), none, .mov (.t 80)⟩]
def c_ref16_Prepare_l22 : IC := (.seq (.seq (.reg c_ref16_Prepare_r17) (.cond (.t 78) .skip (.exit 1))) (.seq (.block 2 (.seq (.reg c_ref16_Prepare_r18) (.seq (.reg c_ref16_Prepare_r19) (.reg c_ref16_Prepare_r20)))) (.reg c_ref16_Prepare_r21)))
@[simp] def c_ref16_Prepare_r23 : List Ir := [⟨(some 96), none, .mov (.t 0)⟩,⟨(some 98), none, .ldn 5 (.t 11)⟩,⟨(some 97), none, .call f_ref16_Copy [(.t 96)]⟩,⟨(some 99), none, .call f_ref16_with [(.t 97), (.t 98)]⟩,⟨(some 8), none, .mov (.t 99)⟩,⟨(some 9), none, .mov (.c (.int .i64 0))⟩]
@[simp] def c_ref16_Prepare : IFn := ⟨(.seq (.reg c_ref16_Prepare_r0) (.seq (.reg c_ref16_Prepare_r1) (.seq (.block 0 (.seq (.reg c_ref16_Prepare_r2) (.cond (.t 17) (.seq (.reg c_ref16_Prepare_r3) .ret) (.seq (.reg c_ref16_Prepare_r4) (.cond (.t 21) (.seq (.reg c_ref16_Prepare_r5) .ret) (.seq (.reg c_ref16_Prepare_r6) (.cond (.t 34) (.seq (.reg c_ref16_Prepare_r7) .ret) (.seq (.reg c_ref16_Prepare_r8) (.cond (.t 41) (.seq (.reg c_ref16_Prepare_r9) .ret) (.seq (.reg c_ref16_Prepare_r10) (.cond (.t 46) (.seq (.reg c_ref16_Prepare_r11) .ret) (.seq (.reg c_ref16_Prepare_r12) (.cond (.t 61) (.seq (.reg c_ref16_Prepare_r13) .ret) .skip))))))))))))) (.seq (.reg c_ref16_Prepare_r14) (.seq (.seq (.reg c_ref16_Prepare_r15) (.cond (.t 70) (.seq (.reg c_ref16_Prepare_r16) (.block 1 (.loop c_ref16_Prepare_l22))) .skip)) (.seq (.regd c_ref16_Prepare_r23 [(1, 2)]) .ret)))))), 100, [.tmp 8, .tmp 9]⟩

theorem fc_ref16_Prepare : fnAt Try.prog f_ref16_Prepare = some c_ref16_Prepare := by kernel_rfl
@[simp] def c_forest_Commit_r0 : List Ir := [⟨(some 6), none, .mov (.c (.slice none 0 0))⟩,⟨(some 7), none, .mov (.c (.int .i64 0))⟩]
@[simp] def c_forest_Commit_r1 : List Ir := [⟨(some 15), none, .mov (.t 0)⟩,⟨(some 16), none, .mov (.t 1)⟩,⟨(some 17), none, .mov (.t 2)⟩,⟨(some 18), none, .mkrow 1 2 [(.string ⟨#[]⟩), (.string ⟨#[]⟩)] [(0, (1, (.t 16))), (1, (1, (.t 17)))]⟩,⟨(some 19), none, .call f_forest_named [(.t 15), (.t 18)]⟩,⟨(some 14), none, .mov (.t 19)⟩,⟨(some 20), none, .ext 0 (.t 14)⟩,⟨(some 21), none, .ext 1 (.t 14)⟩,⟨(some 22), none, .ext 2 (.t 14)⟩,⟨(some 8), none, .mov (.t 20)⟩,⟨(some 9), none, .mov (.t 21)⟩,⟨(some 10), none, .mov (.t 22)⟩]
@[simp] def c_forest_Commit_r2 : List Ir := [⟨(some 23), none, .mov (.t 10)⟩,⟨(some 24), none, .bin .neq 24 (.t 23) (.c (.int .i64 0))⟩]
@[simp] def c_forest_Commit_r3 : List Ir := [⟨(some 25), none, .mov (.t 10)⟩,⟨(some 6), none, .mov (.c (.slice none 0 0))⟩,⟨(some 7), none, .mov (.t 25)⟩]
@[simp] def c_forest_Commit_r4 : List Ir := [⟨(some 26), none, .mov (.t 8)⟩,⟨(some 27), none, .mov (.t 9)⟩,⟨(some 28), none, .iadrS 5 (.t 26) (.t 27)⟩,⟨(some 29), none, .ldn 5 (.t 28)⟩,⟨(some 11), none, .new [(.string ⟨#[]⟩), (.int .i64 0), (.string ⟨#[]⟩), (.string ⟨#[]⟩), (.slice none 0 0)]⟩,⟨none, none, .st 5 (.t 11) (.t 29)⟩]
@[simp] def c_forest_Commit_r5 : List Ir := [⟨(some 30), none, .fadr 1 (.t 11)⟩,⟨(some 31), none, .ld (.t 30)⟩,⟨(some 32), none, .bin .neq 3 (.t 31) (.c (.int .i64 0))⟩]
@[simp] def c_forest_Commit_r6 : List Ir := [⟨(some 6), none, .mov (.c (.slice none 0 0))⟩,⟨(some 7), none, .mov (.c (.int .i64 1905))⟩]
@[simp] def c_forest_Commit_r7 : List Ir := [⟨(some 34), none, .mov (.t 8)⟩,⟨(some 35), none, .mov (.t 2)⟩,⟨(some 36), none, .call f_forest_At [(.t 34), (.t 35)]⟩,⟨(some 33), none, .mov (.t 36)⟩,⟨(some 37), none, .ext 0 (.t 33)⟩,⟨(some 38), none, .ext 1 (.t 33)⟩,⟨(some 12), none, .mov (.t 37)⟩,⟨(some 13), none, .mov (.t 38)⟩]
@[simp] def c_forest_Commit_r8 : List Ir := [⟨(some 39), none, .mov (.t 13)⟩]
@[simp] def c_forest_Commit_r9 : List Ir := [⟨(some 6), none, .mov (.c (.slice none 0 0))⟩,⟨(some 7), none, .mov (.c (.int .i64 1902))⟩]
@[simp] def c_forest_Commit_r10 : List Ir := [⟨(some 40), none, .mov (.t 2)⟩,⟨(some 41), none, .fadr 0 (.t 11)⟩,⟨none, none, .st 1 (.t 41) (.t 40)⟩,⟨(some 42), none, .fadr 1 (.t 11)⟩,⟨none, none, .st 1 (.t 42) (.c (.int .i64 2))⟩]
@[simp] def c_forest_Commit_r11 : List Ir := [⟨(some 43), none, .mov (.t 8)⟩,⟨(some 44), none, .mov (.t 9)⟩,⟨(some 45), none, .mov (.t 9)⟩,⟨(some 46), none, .bin .add 3 (.t 45) (.c (.int .i64 1))⟩,⟨(some 47), none, .call f_slices_Delete_Info [(.t 43), (.t 44), (.t 46)]⟩,⟨(some 8), none, .mov (.t 47)⟩]
@[simp] def c_forest_Commit_r12 : List Ir := [⟨(some 49), none, .mov (.t 8)⟩,⟨(some 50), none, .mov (.t 2)⟩,⟨(some 51), none, .call f_forest_At [(.t 49), (.t 50)]⟩,⟨(some 48), none, .mov (.t 51)⟩,⟨(some 52), none, .ext 0 (.t 48)⟩,⟨(some 53), none, .ext 1 (.t 48)⟩,⟨(some 9), none, .mov (.t 52)⟩]
@[simp] def c_forest_Commit_r13 : List Ir := [⟨(some 54), none, .mov (.t 8)⟩,⟨(some 55), none, .mov (.t 9)⟩,⟨(some 56), none, .ldn 5 (.t 11)⟩,⟨(some 57), none, .mkrow 5 1 [(.string ⟨#[]⟩), (.int .i64 0), (.string ⟨#[]⟩), (.string ⟨#[]⟩), (.slice none 0 0)] [(0, (5, (.t 56)))]⟩,⟨(some 58), none, .call f_slices_Insert_Info [(.t 54), (.t 55), (.t 57)]⟩,⟨(some 6), none, .mov (.t 58)⟩,⟨(some 7), none, .mov (.c (.int .i64 0))⟩]
@[simp] def c_forest_Commit : IFn := ⟨(.seq (.reg c_forest_Commit_r0) (.seq (.reg c_forest_Commit_r1) (.seq (.seq (.reg c_forest_Commit_r2) (.cond (.t 24) (.seq (.reg c_forest_Commit_r3) .ret) .skip)) (.seq (.reg c_forest_Commit_r4) (.seq (.seq (.reg c_forest_Commit_r5) (.cond (.t 32) (.seq (.reg c_forest_Commit_r6) .ret) .skip)) (.seq (.seq (.reg c_forest_Commit_r7) (.seq (.reg c_forest_Commit_r8) (.cond (.t 39) (.seq (.reg c_forest_Commit_r9) .ret) .skip))) (.seq (.reg c_forest_Commit_r10) (.seq (.reg c_forest_Commit_r11) (.seq (.reg c_forest_Commit_r12) (.seq (.reg c_forest_Commit_r13) .ret)))))))))), 59, [.tmp 6, .tmp 7]⟩

theorem fc_forest_Commit : fnAt Try.prog f_forest_Commit = some c_forest_Commit := by kernel_rfl
@[simp] def c_ref16_Commit_r0 : List Ir := [⟨(some 6), none, .mov (.c (.slice none 0 0))⟩,⟨(some 7), none, .mov (.c (.int .i64 0))⟩]
@[simp] def c_ref16_Commit_r1 : List Ir := [⟨(some 12), none, .mov (.t 0)⟩,⟨(some 13), none, .call f_ref16_ForestMay [(.t 12)]⟩,⟨(some 14), none, .un .not (.t 13)⟩]
@[simp] def c_ref16_Commit_r2 : List Ir := [⟨(some 6), none, .mov (.c (.slice none 0 0))⟩,⟨(some 7), none, .mov (.c (.int .i64 1900))⟩]
@[simp] def c_ref16_Commit_r3 : List Ir := [⟨(some 15), none, .mov (.t 1)⟩,⟨(some 16), none, .call f_ref16_NameMay [(.t 15)]⟩,⟨(some 17), none, .un .not (.t 16)⟩,⟨(some 18), none, .mov (.t 17)⟩,⟨(some 19), (some (18, false)), .mov (.t 2)⟩,⟨(some 20), (some (18, false)), .call f_ref16_NameMay [(.t 19)]⟩,⟨(some 21), (some (18, false)), .un .not (.t 20)⟩,⟨(some 22), none, .pick (.t 18) (.c (.bool true)) (.t 21)⟩]
@[simp] def c_ref16_Commit_r4 : List Ir := [⟨(some 6), none, .mov (.c (.slice none 0 0))⟩,⟨(some 7), none, .mov (.c (.int .i64 1901))⟩]
@[simp] def c_ref16_Commit_r5 : List Ir := [⟨(some 24), none, .mov (.t 0)⟩,⟨(some 25), none, .mov (.t 1)⟩,⟨(some 26), none, .call f_ref16_active [(.t 24), (.t 25)]⟩,⟨(some 23), none, .mov (.t 26)⟩,⟨(some 27), none, .ext 0 (.t 23)⟩,⟨(some 28), none, .ext 1 (.t 23)⟩,⟨(some 8), none, .mov (.t 27)⟩,⟨(some 9), none, .mov (.t 28)⟩]
@[simp] def c_ref16_Commit_r6 : List Ir := [⟨(some 29), none, .mov (.t 9)⟩,⟨(some 30), none, .bin .neq 3 (.t 29) (.c (.int .i64 0))⟩]
@[simp] def c_ref16_Commit_r7 : List Ir := [⟨(some 31), none, .mov (.t 9)⟩,⟨(some 6), none, .mov (.c (.slice none 0 0))⟩,⟨(some 7), none, .mov (.t 31)⟩]
@[simp] def c_ref16_Commit_r8 : List Ir := [⟨(some 32), none, .mov (.t 0)⟩,⟨(some 33), none, .mov (.t 2)⟩,⟨(some 34), none, .call f_ref16_At [(.t 32), (.t 33)]⟩,⟨(some 35), none, .bin .geq 3 (.t 34) (.c (.int .i64 0))⟩]
@[simp] def c_ref16_Commit_r9 : List Ir := [⟨(some 6), none, .mov (.c (.slice none 0 0))⟩,⟨(some 7), none, .mov (.c (.int .i64 1902))⟩]
@[simp] def c_ref16_Commit_r10 : List Ir := [⟨(some 36), none, .mov (.t 0)⟩,⟨(some 37), none, .call f_ref16_Copy [(.t 36)]⟩,⟨(some 10), none, .mov (.t 37)⟩]
@[simp] def c_ref16_Commit_r11 : List Ir := [⟨(some 38), none, .mov (.t 10)⟩,⟨(some 39), none, .mov (.t 8)⟩,⟨(some 40), none, .iadrS 5 (.t 38) (.t 39)⟩,⟨(some 41), none, .ldn 5 (.t 40)⟩,⟨(some 11), none, .new [(.string ⟨#[]⟩), (.int .i64 0), (.string ⟨#[]⟩), (.string ⟨#[]⟩), (.slice none 0 0)]⟩,⟨none, none, .st 5 (.t 11) (.t 41)⟩]
@[simp] def c_ref16_Commit_r12 : List Ir := [⟨(some 42), none, .mov (.t 2)⟩,⟨(some 43), none, .fadr 0 (.t 11)⟩,⟨none, none, .st 1 (.t 43) (.t 42)⟩]
@[simp] def c_ref16_Commit_r13 : List Ir := [⟨(some 44), none, .fadr 1 (.t 11)⟩,⟨none, none, .st 1 (.t 44) (.c (.int .i64 2))⟩]
@[simp] def c_ref16_Commit_r14 : List Ir := [⟨(some 45), none, .mov (.t 10)⟩,⟨(some 46), none, .mov (.t 8)⟩,⟨(some 48), none, .ldn 5 (.t 11)⟩,⟨(some 47), none, .call f_ref16_without [(.t 45), (.t 46)]⟩,⟨(some 49), none, .call f_ref16_with [(.t 47), (.t 48)]⟩,⟨(some 6), none, .mov (.t 49)⟩,⟨(some 7), none, .mov (.c (.int .i64 0))⟩]
@[simp] def c_ref16_Commit : IFn := ⟨(.seq (.reg c_ref16_Commit_r0) (.seq (.seq (.reg c_ref16_Commit_r1) (.cond (.t 14) (.seq (.reg c_ref16_Commit_r2) .ret) .skip)) (.seq (.seq (.reg c_ref16_Commit_r3) (.cond (.t 22) (.seq (.reg c_ref16_Commit_r4) .ret) .skip)) (.seq (.reg c_ref16_Commit_r5) (.seq (.seq (.reg c_ref16_Commit_r6) (.cond (.t 30) (.seq (.reg c_ref16_Commit_r7) .ret) .skip)) (.seq (.seq (.reg c_ref16_Commit_r8) (.cond (.t 35) (.seq (.reg c_ref16_Commit_r9) .ret) .skip)) (.seq (.reg c_ref16_Commit_r10) (.seq (.reg c_ref16_Commit_r11) (.seq (.reg c_ref16_Commit_r12) (.seq (.reg c_ref16_Commit_r13) (.seq (.regd c_ref16_Commit_r14 [(2, 3)]) .ret))))))))))), 50, [.tmp 6, .tmp 7]⟩

theorem fc_ref16_Commit : fnAt Try.prog f_ref16_Commit = some c_ref16_Commit := by kernel_rfl
@[simp] def c_forest_Remove_r0 : List Ir := [⟨(some 3), none, .box 1 (.t 1)⟩,⟨(some 4), none, .mov (.c (.slice none 0 0))⟩,⟨(some 5), none, .mov (.c (.int .i64 0))⟩]
@[simp] def c_forest_Remove_r1 : List Ir := [⟨(some 10), none, .mov (.t 0)⟩,⟨(some 11), none, .ld (.t 3)⟩,⟨(some 12), none, .mkrow 1 1 [(.string ⟨#[]⟩)] [(0, (1, (.t 11)))]⟩,⟨(some 13), none, .call f_forest_named [(.t 10), (.t 12)]⟩,⟨(some 9), none, .mov (.t 13)⟩,⟨(some 14), none, .ext 0 (.t 9)⟩,⟨(some 15), none, .ext 1 (.t 9)⟩,⟨(some 16), none, .ext 2 (.t 9)⟩,⟨(some 6), none, .mov (.t 14)⟩,⟨(some 7), none, .mov (.t 15)⟩,⟨(some 8), none, .mov (.t 16)⟩]
@[simp] def c_forest_Remove_r2 : List Ir := [⟨(some 17), none, .mov (.t 8)⟩,⟨(some 18), none, .bin .neq 24 (.t 17) (.c (.int .i64 0))⟩]
@[simp] def c_forest_Remove_r3 : List Ir := [⟨(some 19), none, .mov (.t 8)⟩,⟨(some 4), none, .mov (.c (.slice none 0 0))⟩,⟨(some 5), none, .mov (.t 19)⟩]
@[simp] def c_forest_Remove_r4 : List Ir := [⟨(some 20), none, .mov (.t 6)⟩,⟨(some 21), none, .clos f_forest_Remove_1 [(.t 3)]⟩,⟨(some 22), none, .call f_slices_ContainsFunc_Info [(.t 20), (.t 21)]⟩]
@[simp] def c_forest_Remove_r5 : List Ir := [⟨(some 4), none, .mov (.c (.slice none 0 0))⟩,⟨(some 5), none, .mov (.c (.int .i64 1906))⟩]
@[simp] def c_forest_Remove_r6 : List Ir := [⟨(some 23), none, .mov (.t 6)⟩,⟨(some 24), none, .mov (.t 7)⟩,⟨(some 25), none, .mov (.t 7)⟩,⟨(some 26), none, .bin .add 3 (.t 25) (.c (.int .i64 1))⟩,⟨(some 27), none, .call f_slices_Delete_Info [(.t 23), (.t 24), (.t 26)]⟩,⟨(some 4), none, .mov (.t 27)⟩,⟨(some 5), none, .mov (.c (.int .i64 0))⟩]
@[simp] def c_forest_Remove : IFn := ⟨(.seq (.reg c_forest_Remove_r0) (.seq (.reg c_forest_Remove_r1) (.seq (.seq (.reg c_forest_Remove_r2) (.cond (.t 18) (.seq (.reg c_forest_Remove_r3) .ret) .skip)) (.seq (.seq (.reg c_forest_Remove_r4) (.cond (.t 22) (.seq (.reg c_forest_Remove_r5) .ret) .skip)) (.seq (.reg c_forest_Remove_r6) .ret))))), 28, [.tmp 4, .tmp 5]⟩

theorem fc_forest_Remove : fnAt Try.prog f_forest_Remove = some c_forest_Remove := by kernel_rfl
@[simp] def c_ref16_Remove_r0 : List Ir := [⟨(some 4), none, .mov (.c (.slice none 0 0))⟩,⟨(some 5), none, .mov (.c (.int .i64 0))⟩]
@[simp] def c_ref16_Remove_r1 : List Ir := [⟨(some 8), none, .mov (.t 0)⟩,⟨(some 9), none, .mov (.t 1)⟩,⟨(some 10), none, .call f_ref16_At [(.t 8), (.t 9)]⟩,⟨(some 6), none, .mov (.t 10)⟩]
@[simp] def c_ref16_Remove_r2 : List Ir := [⟨(some 12), none, .mov (.t 0)⟩,⟨(some 13), none, .call f_ref16_ForestMay [(.t 12)]⟩,⟨(some 14), none, .un .not (.t 13)⟩,⟨(some 11), none, .mov (.t 14)⟩]
@[simp] def c_ref16_Remove_r3 : List Ir := [⟨(some 4), none, .mov (.c (.slice none 0 0))⟩,⟨(some 5), none, .mov (.c (.int .i64 1900))⟩]
@[simp] def c_ref16_Remove_r4 : List Ir := [⟨(some 16), none, .mov (.t 1)⟩,⟨(some 17), none, .call f_ref16_NameMay [(.t 16)]⟩,⟨(some 18), none, .un .not (.t 17)⟩,⟨(some 15), none, .mov (.t 18)⟩]
@[simp] def c_ref16_Remove_r5 : List Ir := [⟨(some 4), none, .mov (.c (.slice none 0 0))⟩,⟨(some 5), none, .mov (.c (.int .i64 1901))⟩]
@[simp] def c_ref16_Remove_r6 : List Ir := [⟨(some 20), none, .mov (.t 6)⟩,⟨(some 21), none, .bin .lss 3 (.t 20) (.c (.int .i64 0))⟩,⟨(some 19), none, .mov (.t 21)⟩]
@[simp] def c_ref16_Remove_r7 : List Ir := [⟨(some 4), none, .mov (.c (.slice none 0 0))⟩,⟨(some 5), none, .mov (.c (.int .i64 1903))⟩]
@[simp] def c_ref16_Remove_r8 : List Ir := [⟨(some 7), none, .mov (.c (.int .i64 0))⟩]
@[simp] def c_ref16_Remove_r9 : List Ir := [⟨(some 22), none, .mov (.t 7)⟩,⟨(some 23), none, .mov (.t 0)⟩,⟨(some 24), none, .lenV (.t 23)⟩,⟨(some 25), none, .bin .lss 3 (.t 22) (.t 24)⟩]
@[simp] def c_ref16_Remove_r10 : List Ir := [⟨(some 28), none, .mov (.t 0)⟩,⟨(some 29), none, .mov (.t 7)⟩,⟨(some 30), none, .iadrS 5 (.t 28) (.t 29)⟩,⟨(some 31), none, .fadr 2 (.t 30)⟩,⟨(some 32), none, .ld (.t 31)⟩,⟨(some 33), none, .mov (.t 1)⟩,⟨(some 34), none, .bin .eql 9 (.t 32) (.t 33)⟩]
@[simp] def c_ref16_Remove_r11 : List Ir := [⟨(some 4), none, .mov (.c (.slice none 0 0))⟩,⟨(some 5), none, .mov (.c (.int .i64 1906))⟩]
@[simp] def c_ref16_Remove_r12 : List Ir := [⟨(some 26), none, .mov (.t 7)⟩,⟨(some 27), none, .bin .add 3 (.t 26) (.c (.int .i64 1))⟩,⟨(some 7), none, .mov (.t 27)⟩]
def c_ref16_Remove_l13 : IC := (.seq (.seq (.reg c_ref16_Remove_r9) (.cond (.t 25) .skip (.exit 1))) (.seq (.block 2 (.seq (.reg c_ref16_Remove_r10) (.cond (.t 34) (.seq (.reg c_ref16_Remove_r11) .ret) .skip))) (.reg c_ref16_Remove_r12)))
@[simp] def c_ref16_Remove_r14 : List Ir := [⟨(some 35), none, .mov (.t 0)⟩,⟨(some 36), none, .call f_ref16_Copy [(.t 35)]⟩,⟨(some 37), none, .mov (.t 6)⟩,⟨(some 38), none, .call f_ref16_without [(.t 36), (.t 37)]⟩,⟨(some 4), none, .mov (.t 38)⟩,⟨(some 5), none, .mov (.c (.int .i64 0))⟩]
@[simp] def c_ref16_Remove : IFn := ⟨(.seq (.reg c_ref16_Remove_r0) (.seq (.reg c_ref16_Remove_r1) (.seq (.block 0 (.seq (.reg c_ref16_Remove_r2) (.cond (.t 11) (.seq (.reg c_ref16_Remove_r3) .ret) (.seq (.reg c_ref16_Remove_r4) (.cond (.t 15) (.seq (.reg c_ref16_Remove_r5) .ret) (.seq (.reg c_ref16_Remove_r6) (.cond (.t 19) (.seq (.reg c_ref16_Remove_r7) .ret) .skip))))))) (.seq (.seq (.reg c_ref16_Remove_r8) (.block 1 (.loop c_ref16_Remove_l13))) (.seq (.reg c_ref16_Remove_r14) .ret))))), 39, [.tmp 4, .tmp 5]⟩

theorem fc_ref16_Remove : fnAt Try.prog f_ref16_Remove = some c_ref16_Remove := by kernel_rfl
@[simp] def c_forest_Label_r0 : List Ir := [⟨(some 6), none, .mov (.c (.slice none 0 0))⟩,⟨(some 7), none, .mov (.c (.int .i64 0))⟩]
@[simp] def c_forest_Label_r1 : List Ir := [⟨(some 12), none, .mov (.t 0)⟩,⟨(some 13), none, .mov (.t 1)⟩,⟨(some 14), none, .mkrow 1 1 [(.string ⟨#[]⟩)] [(0, (1, (.t 13)))]⟩,⟨(some 15), none, .call f_forest_named [(.t 12), (.t 14)]⟩,⟨(some 11), none, .mov (.t 15)⟩,⟨(some 16), none, .ext 0 (.t 11)⟩,⟨(some 17), none, .ext 1 (.t 11)⟩,⟨(some 18), none, .ext 2 (.t 11)⟩,⟨(some 8), none, .mov (.t 16)⟩,⟨(some 9), none, .mov (.t 17)⟩,⟨(some 10), none, .mov (.t 18)⟩]
@[simp] def c_forest_Label_r2 : List Ir := [⟨(some 19), none, .mov (.t 10)⟩,⟨(some 20), none, .bin .neq 24 (.t 19) (.c (.int .i64 0))⟩]
@[simp] def c_forest_Label_r3 : List Ir := [⟨(some 21), none, .mov (.t 10)⟩,⟨(some 6), none, .mov (.c (.slice none 0 0))⟩,⟨(some 7), none, .mov (.t 21)⟩]
@[simp] def c_forest_Label_r4 : List Ir := [⟨(some 22), none, .mov (.t 2)⟩,⟨(some 23), none, .call f_snap_Label [(.t 22)]⟩,⟨(some 24), none, .un .not (.t 23)⟩]
@[simp] def c_forest_Label_r5 : List Ir := [⟨(some 6), none, .mov (.c (.slice none 0 0))⟩,⟨(some 7), none, .mov (.c (.int .i64 1911))⟩]
@[simp] def c_forest_Label_r6 : List Ir := [⟨(some 25), none, .mov (.t 8)⟩,⟨(some 26), none, .mov (.t 9)⟩,⟨(some 27), none, .mov (.t 2)⟩,⟨(some 28), none, .iadrS 5 (.t 25) (.t 26)⟩,⟨(some 29), none, .fadr 3 (.t 28)⟩,⟨none, none, .st 1 (.t 29) (.t 27)⟩]
@[simp] def c_forest_Label_r7 : List Ir := [⟨(some 30), none, .mov (.t 8)⟩,⟨(some 6), none, .mov (.t 30)⟩,⟨(some 7), none, .mov (.c (.int .i64 0))⟩]
@[simp] def c_forest_Label : IFn := ⟨(.seq (.reg c_forest_Label_r0) (.seq (.reg c_forest_Label_r1) (.seq (.seq (.reg c_forest_Label_r2) (.cond (.t 20) (.seq (.reg c_forest_Label_r3) .ret) .skip)) (.seq (.seq (.reg c_forest_Label_r4) (.cond (.t 24) (.seq (.reg c_forest_Label_r5) .ret) .skip)) (.seq (.reg c_forest_Label_r6) (.seq (.reg c_forest_Label_r7) .ret)))))), 31, [.tmp 6, .tmp 7]⟩

theorem fc_forest_Label : fnAt Try.prog f_forest_Label = some c_forest_Label := by kernel_rfl
@[simp] def c_ref16_Label_r0 : List Ir := [⟨(some 6), none, .mov (.c (.slice none 0 0))⟩,⟨(some 7), none, .mov (.c (.int .i64 0))⟩]
@[simp] def c_ref16_Label_r1 : List Ir := [⟨(some 10), none, .mov (.t 0)⟩,⟨(some 11), none, .mov (.t 1)⟩,⟨(some 12), none, .call f_ref16_At [(.t 10), (.t 11)]⟩,⟨(some 8), none, .mov (.t 12)⟩]
@[simp] def c_ref16_Label_r2 : List Ir := [⟨(some 14), none, .mov (.t 0)⟩,⟨(some 15), none, .call f_ref16_ForestMay [(.t 14)]⟩,⟨(some 16), none, .un .not (.t 15)⟩,⟨(some 13), none, .mov (.t 16)⟩]
@[simp] def c_ref16_Label_r3 : List Ir := [⟨(some 6), none, .mov (.c (.slice none 0 0))⟩,⟨(some 7), none, .mov (.c (.int .i64 1900))⟩]
@[simp] def c_ref16_Label_r4 : List Ir := [⟨(some 18), none, .mov (.t 1)⟩,⟨(some 19), none, .call f_ref16_NameMay [(.t 18)]⟩,⟨(some 20), none, .un .not (.t 19)⟩,⟨(some 17), none, .mov (.t 20)⟩]
@[simp] def c_ref16_Label_r5 : List Ir := [⟨(some 6), none, .mov (.c (.slice none 0 0))⟩,⟨(some 7), none, .mov (.c (.int .i64 1901))⟩]
@[simp] def c_ref16_Label_r6 : List Ir := [⟨(some 22), none, .mov (.t 8)⟩,⟨(some 23), none, .bin .lss 3 (.t 22) (.c (.int .i64 0))⟩,⟨(some 21), none, .mov (.t 23)⟩]
@[simp] def c_ref16_Label_r7 : List Ir := [⟨(some 6), none, .mov (.c (.slice none 0 0))⟩,⟨(some 7), none, .mov (.c (.int .i64 1903))⟩]
@[simp] def c_ref16_Label_r8 : List Ir := [⟨(some 25), none, .mov (.t 2)⟩,⟨(some 26), none, .lenS (.t 25)⟩,⟨(some 27), none, .bin .gtr 3 (.t 26) (.c (.int .i64 3))⟩,⟨(some 24), none, .mov (.t 27)⟩]
@[simp] def c_ref16_Label_r9 : List Ir := [⟨(some 6), none, .mov (.c (.slice none 0 0))⟩,⟨(some 7), none, .mov (.c (.int .i64 1911))⟩]
@[simp] def c_ref16_Label_r10 : List Ir := [⟨(some 28), none, .mov (.t 0)⟩,⟨(some 29), none, .call f_ref16_Copy [(.t 28)]⟩,⟨(some 9), none, .mov (.t 29)⟩]
@[simp] def c_ref16_Label_r11 : List Ir := [⟨(some 30), none, .mov (.t 9)⟩,⟨(some 31), none, .mov (.t 8)⟩,⟨(some 32), none, .mov (.t 2)⟩,⟨(some 33), none, .iadrS 5 (.t 30) (.t 31)⟩,⟨(some 34), none, .fadr 3 (.t 33)⟩,⟨none, none, .st 1 (.t 34) (.t 32)⟩]
@[simp] def c_ref16_Label_r12 : List Ir := [⟨(some 35), none, .mov (.t 9)⟩,⟨(some 6), none, .mov (.t 35)⟩,⟨(some 7), none, .mov (.c (.int .i64 0))⟩]
@[simp] def c_ref16_Label : IFn := ⟨(.seq (.reg c_ref16_Label_r0) (.seq (.reg c_ref16_Label_r1) (.seq (.block 0 (.seq (.reg c_ref16_Label_r2) (.cond (.t 13) (.seq (.reg c_ref16_Label_r3) .ret) (.seq (.reg c_ref16_Label_r4) (.cond (.t 17) (.seq (.reg c_ref16_Label_r5) .ret) (.seq (.reg c_ref16_Label_r6) (.cond (.t 21) (.seq (.reg c_ref16_Label_r7) .ret) (.seq (.reg c_ref16_Label_r8) (.cond (.t 24) (.seq (.reg c_ref16_Label_r9) .ret) .skip))))))))) (.seq (.reg c_ref16_Label_r10) (.seq (.reg c_ref16_Label_r11) (.seq (.reg c_ref16_Label_r12) .ret)))))), 36, [.tmp 6, .tmp 7]⟩

theorem fc_ref16_Label : fnAt Try.prog f_ref16_Label = some c_ref16_Label := by kernel_rfl
@[simp] def c_forest_Write_r0 : List Ir := [⟨(some 8), none, .mov (.c (.slice none 0 0))⟩,⟨(some 9), none, .mov (.c (.int .i64 0))⟩]
@[simp] def c_forest_Write_r1 : List Ir := [⟨(some 16), none, .mov (.t 0)⟩,⟨(some 17), none, .mov (.t 1)⟩,⟨(some 18), none, .mov (.t 2)⟩,⟨(some 19), none, .call f_forest_file [(.t 16), (.t 17), (.t 18)]⟩,⟨(some 15), none, .mov (.t 19)⟩,⟨(some 20), none, .ext 0 (.t 15)⟩,⟨(some 21), none, .ext 1 (.t 15)⟩,⟨(some 22), none, .ext 2 (.t 15)⟩,⟨(some 10), none, .mov (.t 20)⟩,⟨(some 11), none, .mov (.t 21)⟩,⟨(some 12), none, .mov (.t 22)⟩]
@[simp] def c_forest_Write_r2 : List Ir := [⟨(some 23), none, .mov (.t 12)⟩,⟨(some 24), none, .bin .neq 24 (.t 23) (.c (.int .i64 0))⟩]
@[simp] def c_forest_Write_r3 : List Ir := [⟨(some 25), none, .mov (.t 12)⟩,⟨(some 8), none, .mov (.c (.slice none 0 0))⟩,⟨(some 9), none, .mov (.t 25)⟩]
@[simp] def c_forest_Write_r4 : List Ir := [⟨(some 26), none, .mov (.t 3)⟩,⟨(some 27), none, .call f_inode_Content [(.t 26)]⟩,⟨(some 28), none, .un .not (.t 27)⟩]
@[simp] def c_forest_Write_r5 : List Ir := [⟨(some 8), none, .mov (.c (.slice none 0 0))⟩,⟨(some 9), none, .mov (.c (.int .i64 1909))⟩]
@[simp] def c_forest_Write_r6 : List Ir := [⟨(some 30), none, .mov (.t 11)⟩,⟨(some 31), none, .nilck (.t 30)⟩,⟨(some 32), none, .fadr 4 (.t 31)⟩,⟨(some 33), none, .ld (.t 32)⟩,⟨(some 34), none, .mov (.t 2)⟩,⟨(some 35), none, .call f_forest_FileAt [(.t 33), (.t 34)]⟩,⟨(some 29), none, .mov (.t 35)⟩,⟨(some 36), none, .ext 0 (.t 29)⟩,⟨(some 37), none, .ext 1 (.t 29)⟩,⟨(some 13), none, .mov (.t 36)⟩,⟨(some 14), none, .mov (.t 37)⟩]
@[simp] def c_forest_Write_r7 : List Ir := [⟨(some 39), none, .mov (.t 14)⟩,⟨(some 40), none, .un .not (.t 39)⟩,⟨(some 41), none, .mov (.t 40)⟩,⟨(some 42), (some (41, true)), .mov (.t 11)⟩,⟨(some 43), (some (41, true)), .nilck (.t 42)⟩,⟨(some 44), (some (41, true)), .fadr 4 (.t 43)⟩,⟨(some 45), (some (41, true)), .ld (.t 44)⟩,⟨(some 46), (some (41, true)), .lenV (.t 45)⟩,⟨(some 47), (some (41, true)), .bin .eql 3 (.t 46) (.c (.int .i64 4))⟩,⟨(some 48), none, .pick (.t 41) (.t 47) (.c (.bool false))⟩,⟨(some 38), none, .mov (.t 48)⟩]
@[simp] def c_forest_Write_r8 : List Ir := [⟨(some 8), none, .mov (.c (.slice none 0 0))⟩,⟨(some 9), none, .mov (.c (.int .i64 1910))⟩]
@[simp] def c_forest_Write_r9 : List Ir := [⟨(some 50), none, .mov (.t 14)⟩,⟨(some 51), none, .un .not (.t 50)⟩,⟨(some 49), none, .mov (.t 51)⟩]
@[simp] def c_forest_Write_r10 : List Ir := [⟨(some 52), none, .mov (.t 11)⟩,⟨(some 53), none, .mov (.t 11)⟩,⟨(some 54), none, .nilck (.t 53)⟩,⟨(some 55), none, .fadr 4 (.t 54)⟩,⟨(some 56), none, .ld (.t 55)⟩,⟨(some 57), none, .mov (.t 13)⟩,⟨(some 58), none, .build [(.string ⟨#[]⟩), (.string ⟨#[]⟩), (.bool false)] []⟩,⟨(some 59), none, .mkrow 3 1 [(.string ⟨#[]⟩), (.string ⟨#[]⟩), (.bool false)] [(0, (3, (.t 58)))]⟩,⟨(some 60), none, .call f_slices_Insert_File [(.t 56), (.t 57), (.t 59)]⟩,⟨(some 61), none, .nilck (.t 52)⟩,⟨(some 62), none, .fadr 4 (.t 61)⟩,⟨none, none, .st 1 (.t 62) (.t 60)⟩]
@[simp] def c_forest_Write_r11 : List Ir := [⟨(some 63), none, .mov (.t 11)⟩,⟨(some 64), none, .nilck (.t 63)⟩,⟨(some 65), none, .fadr 4 (.t 64)⟩,⟨(some 66), none, .ld (.t 65)⟩,⟨(some 67), none, .mov (.t 13)⟩,⟨(some 68), none, .mov (.t 2)⟩,⟨(some 69), none, .mov (.t 3)⟩,⟨(some 70), none, .build [(.string ⟨#[]⟩), (.string ⟨#[]⟩), (.bool false)] [(0, (1, (.t 68))), (1, (1, (.t 69))), (2, (1, (.c (.bool true))))]⟩,⟨(some 71), none, .iadrS 3 (.t 66) (.t 67)⟩,⟨none, none, .st 3 (.t 71) (.t 70)⟩]
@[simp] def c_forest_Write_r12 : List Ir := [⟨(some 72), none, .mov (.t 10)⟩,⟨(some 8), none, .mov (.t 72)⟩,⟨(some 9), none, .mov (.c (.int .i64 0))⟩]
@[simp] def c_forest_Write : IFn := ⟨(.seq (.reg c_forest_Write_r0) (.seq (.reg c_forest_Write_r1) (.seq (.seq (.reg c_forest_Write_r2) (.cond (.t 24) (.seq (.reg c_forest_Write_r3) .ret) .skip)) (.seq (.seq (.reg c_forest_Write_r4) (.cond (.t 28) (.seq (.reg c_forest_Write_r5) .ret) .skip)) (.seq (.reg c_forest_Write_r6) (.seq (.block 0 (.seq (.reg c_forest_Write_r7) (.cond (.t 38) (.seq (.reg c_forest_Write_r8) .ret) (.seq (.reg c_forest_Write_r9) (.cond (.t 49) (.reg c_forest_Write_r10) .skip))))) (.seq (.reg c_forest_Write_r11) (.seq (.reg c_forest_Write_r12) .ret)))))))), 73, [.tmp 8, .tmp 9]⟩

theorem fc_forest_Write : fnAt Try.prog f_forest_Write = some c_forest_Write := by kernel_rfl
@[simp] def c_ref16_Write_r0 : List Ir := [⟨(some 8), none, .mov (.c (.slice none 0 0))⟩,⟨(some 9), none, .mov (.c (.int .i64 0))⟩]
@[simp] def c_ref16_Write_r1 : List Ir := [⟨(some 17), none, .mov (.t 0)⟩,⟨(some 18), none, .call f_ref16_ForestMay [(.t 17)]⟩,⟨(some 19), none, .un .not (.t 18)⟩]
@[simp] def c_ref16_Write_r2 : List Ir := [⟨(some 8), none, .mov (.c (.slice none 0 0))⟩,⟨(some 9), none, .mov (.c (.int .i64 1900))⟩]
@[simp] def c_ref16_Write_r3 : List Ir := [⟨(some 20), none, .mov (.t 1)⟩,⟨(some 21), none, .call f_ref16_NameMay [(.t 20)]⟩,⟨(some 22), none, .un .not (.t 21)⟩]
@[simp] def c_ref16_Write_r4 : List Ir := [⟨(some 8), none, .mov (.c (.slice none 0 0))⟩,⟨(some 9), none, .mov (.c (.int .i64 1901))⟩]
@[simp] def c_ref16_Write_r5 : List Ir := [⟨(some 24), none, .mov (.t 0)⟩,⟨(some 25), none, .mov (.t 1)⟩,⟨(some 26), none, .call f_ref16_active [(.t 24), (.t 25)]⟩,⟨(some 23), none, .mov (.t 26)⟩,⟨(some 27), none, .ext 0 (.t 23)⟩,⟨(some 28), none, .ext 1 (.t 23)⟩,⟨(some 10), none, .mov (.t 27)⟩,⟨(some 11), none, .mov (.t 28)⟩]
@[simp] def c_ref16_Write_r6 : List Ir := [⟨(some 29), none, .mov (.t 11)⟩,⟨(some 30), none, .bin .neq 3 (.t 29) (.c (.int .i64 0))⟩]
@[simp] def c_ref16_Write_r7 : List Ir := [⟨(some 31), none, .mov (.t 11)⟩,⟨(some 8), none, .mov (.c (.slice none 0 0))⟩,⟨(some 9), none, .mov (.t 31)⟩]
@[simp] def c_ref16_Write_r8 : List Ir := [⟨(some 32), none, .mov (.t 0)⟩,⟨(some 33), none, .mov (.t 10)⟩,⟨(some 34), none, .iadrS 5 (.t 32) (.t 33)⟩,⟨(some 35), none, .fadr 4 (.t 34)⟩,⟨(some 36), none, .ld (.t 35)⟩,⟨(some 37), none, .mov (.t 2)⟩,⟨(some 38), none, .call f_ref16_fileAt [(.t 36), (.t 37)]⟩,⟨(some 12), none, .mov (.t 38)⟩]
@[simp] def c_ref16_Write_r9 : List Ir := [⟨(some 40), none, .mov (.t 2)⟩,⟨(some 41), none, .call f_ref16_PathMay [(.t 40)]⟩,⟨(some 42), none, .un .not (.t 41)⟩,⟨(some 39), none, .mov (.t 42)⟩]
@[simp] def c_ref16_Write_r10 : List Ir := [⟨(some 8), none, .mov (.c (.slice none 0 0))⟩,⟨(some 9), none, .mov (.c (.int .i64 1907))⟩]
@[simp] def c_ref16_Write_r11 : List Ir := [⟨(some 44), none, .mov (.t 3)⟩,⟨(some 45), none, .lenS (.t 44)⟩,⟨(some 46), none, .bin .gtr 3 (.t 45) (.c (.int .i64 6))⟩,⟨(some 43), none, .mov (.t 46)⟩]
@[simp] def c_ref16_Write_r12 : List Ir := [⟨(some 8), none, .mov (.c (.slice none 0 0))⟩,⟨(some 9), none, .mov (.c (.int .i64 1909))⟩]
@[simp] def c_ref16_Write_r13 : List Ir := [⟨(some 48), none, .mov (.t 12)⟩,⟨(some 49), none, .bin .lss 3 (.t 48) (.c (.int .i64 0))⟩,⟨(some 50), none, .mov (.t 49)⟩,⟨(some 51), (some (50, true)), .mov (.t 0)⟩,⟨(some 52), (some (50, true)), .mov (.t 10)⟩,⟨(some 53), (some (50, true)), .iadrS 5 (.t 51) (.t 52)⟩,⟨(some 54), (some (50, true)), .fadr 4 (.t 53)⟩,⟨(some 55), (some (50, true)), .ld (.t 54)⟩,⟨(some 56), (some (50, true)), .lenV (.t 55)⟩,⟨(some 57), (some (50, true)), .bin .geq 3 (.t 56) (.c (.int .i64 4))⟩,⟨(some 58), none, .pick (.t 50) (.t 57) (.c (.bool false))⟩,⟨(some 47), none, .mov (.t 58)⟩]
@[simp] def c_ref16_Write_r14 : List Ir := [⟨(some 8), none, .mov (.c (.slice none 0 0))⟩,⟨(some 9), none, .mov (.c (.int .i64 1910))⟩]
@[simp] def c_ref16_Write_r15 : List Ir := [⟨(some 59), none, .mov (.t 0)⟩,⟨(some 60), none, .call f_ref16_Copy [(.t 59)]⟩,⟨(some 13), none, .mov (.t 60)⟩]
@[simp] def c_ref16_Write_r16 : List Ir := [⟨(some 61), none, .mov (.t 2)⟩,⟨(some 62), none, .mov (.t 3)⟩,⟨(some 63), none, .build [(.string ⟨#[]⟩), (.string ⟨#[]⟩), (.bool false)] [(0, (1, (.t 61))), (1, (1, (.t 62))), (2, (1, (.c (.bool true))))]⟩,⟨(some 14), none, .new [(.string ⟨#[]⟩), (.string ⟨#[]⟩), (.bool false)]⟩,⟨none, none, .st 3 (.t 14) (.t 63)⟩]
@[simp] def c_ref16_Write_r17 : List Ir := [⟨(some 64), none, .mov (.t 12)⟩,⟨(some 65), none, .bin .geq 3 (.t 64) (.c (.int .i64 0))⟩]
@[simp] def c_ref16_Write_r18 : List Ir := [⟨(some 66), none, .mov (.t 13)⟩,⟨(some 67), none, .mov (.t 10)⟩,⟨(some 68), none, .iadrS 5 (.t 66) (.t 67)⟩,⟨(some 69), none, .fadr 4 (.t 68)⟩,⟨(some 70), none, .ld (.t 69)⟩,⟨(some 71), none, .mov (.t 12)⟩,⟨(some 72), none, .ldn 3 (.t 14)⟩,⟨(some 73), none, .iadrS 3 (.t 70) (.t 71)⟩,⟨none, none, .st 3 (.t 73) (.t 72)⟩]
@[simp] def c_ref16_Write_r19 : List Ir := [⟨(some 74), none, .mov (.t 13)⟩,⟨(some 8), none, .mov (.t 74)⟩,⟨(some 9), none, .mov (.c (.int .i64 0))⟩]
@[simp] def c_ref16_Write_r20 : List Ir := [⟨(some 15), none, .mov (.c (.slice none 0 0))⟩]
@[simp] def c_ref16_Write_r21 : List Ir := [⟨(some 16), none, .mov (.c (.int .i64 0))⟩]
@[simp] def c_ref16_Write_r22 : List Ir := [⟨(some 75), none, .mov (.t 16)⟩,⟨(some 76), none, .mov (.t 13)⟩,⟨(some 77), none, .mov (.t 10)⟩,⟨(some 78), none, .iadrS 5 (.t 76) (.t 77)⟩,⟨(some 79), none, .fadr 4 (.t 78)⟩,⟨(some 80), none, .ld (.t 79)⟩,⟨(some 81), none, .lenV (.t 80)⟩,⟨(some 82), none, .bin .lss 3 (.t 75) (.t 81)⟩]
@[simp] def c_ref16_Write_r23 : List Ir := [⟨(some 85), none, .mov (.t 15)⟩,⟨(some 86), none, .lenV (.t 85)⟩,⟨(some 87), none, .mov (.t 16)⟩,⟨(some 88), none, .bin .eql 3 (.t 86) (.t 87)⟩,⟨(some 89), none, .mov (.t 88)⟩,⟨(some 90), (some (89, true)), .mov (.t 13)⟩,⟨(some 91), (some (89, true)), .mov (.t 10)⟩,⟨(some 92), (some (89, true)), .iadrS 5 (.t 90) (.t 91)⟩,⟨(some 93), (some (89, true)), .fadr 4 (.t 92)⟩,⟨(some 94), (some (89, true)), .ld (.t 93)⟩,⟨(some 95), (some (89, true)), .mov (.t 16)⟩,⟨(some 96), (some (89, true)), .iadrS 3 (.t 94) (.t 95)⟩,⟨(some 97), (some (89, true)), .fadr 0 (.t 96)⟩,⟨(some 98), (some (89, true)), .ld (.t 97)⟩,⟨(some 99), (some (89, true)), .mov (.t 2)⟩,⟨(some 100), (some (89, true)), .bin .gtr 9 (.t 98) (.t 99)⟩,⟨(some 101), none, .pick (.t 89) (.t 100) (.c (.bool false))⟩]
@[simp] def c_ref16_Write_r24 : List Ir := [⟨(some 102), none, .mov (.t 15)⟩,⟨(some 103), none, .ldn 3 (.t 14)⟩,⟨(some 104), none, .mkrow 3 1 [(.string ⟨#[]⟩), (.string ⟨#[]⟩), (.bool false)] [(0, (3, (.t 103)))]⟩,⟨(some 105), none, .app 3 40 (.t 102) (.t 104)⟩,⟨(some 15), none, .mov (.t 105)⟩]
@[simp] def c_ref16_Write_r25 : List Ir := [⟨(some 106), none, .mov (.t 15)⟩,⟨(some 107), none, .mov (.t 13)⟩,⟨(some 108), none, .mov (.t 10)⟩,⟨(some 109), none, .iadrS 5 (.t 107) (.t 108)⟩,⟨(some 110), none, .fadr 4 (.t 109)⟩,⟨(some 111), none, .ld (.t 110)⟩,⟨(some 112), none, .mov (.t 16)⟩,⟨(some 113), none, .iadrS 3 (.t 111) (.t 112)⟩,⟨(some 114), none, .ldn 3 (.t 113)⟩,⟨(some 115), none, .mkrow 3 1 [(.string ⟨#[]⟩), (.string ⟨#[]⟩), (.bool false)] [(0, (3, (.t 114)))]⟩,⟨(some 116), none, .app 3 40 (.t 106) (.t 115)⟩,⟨(some 15), none, .mov (.t 116)⟩]
@[simp] def c_ref16_Write_r26 : List Ir := [⟨(some 83), none, .mov (.t 16)⟩,⟨(some 84), none, .bin .add 3 (.t 83) (.c (.int .i64 1))⟩,⟨(some 16), none, .mov (.t 84)⟩]
def c_ref16_Write_l27 : IC := (.seq (.seq (.reg c_ref16_Write_r22) (.cond (.t 82) .skip (.exit 1))) (.seq (.block 2 (.seq (.seq (.reg c_ref16_Write_r23) (.cond (.t 101) (.reg c_ref16_Write_r24) .skip)) (.reg c_ref16_Write_r25))) (.reg c_ref16_Write_r26)))
@[simp] def c_ref16_Write_r28 : List Ir := [⟨(some 117), none, .mov (.t 15)⟩,⟨(some 118), none, .lenV (.t 117)⟩,⟨(some 119), none, .mov (.t 13)⟩,⟨(some 120), none, .mov (.t 10)⟩,⟨(some 121), none, .iadrS 5 (.t 119) (.t 120)⟩,⟨(some 122), none, .fadr 4 (.t 121)⟩,⟨(some 123), none, .ld (.t 122)⟩,⟨(some 124), none, .lenV (.t 123)⟩,⟨(some 125), none, .bin .eql 3 (.t 118) (.t 124)⟩]
@[simp] def c_ref16_Write_r29 : List Ir := [⟨(some 126), none, .mov (.t 15)⟩,⟨(some 127), none, .ldn 3 (.t 14)⟩,⟨(some 128), none, .mkrow 3 1 [(.string ⟨#[]⟩), (.string ⟨#[]⟩), (.bool false)] [(0, (3, (.t 127)))]⟩,⟨(some 129), none, .app 3 40 (.t 126) (.t 128)⟩,⟨(some 15), none, .mov (.t 129)⟩]
@[simp] def c_ref16_Write_r30 : List Ir := [⟨(some 130), none, .mov (.t 13)⟩,⟨(some 131), none, .mov (.t 10)⟩,⟨(some 132), none, .mov (.t 15)⟩,⟨(some 133), none, .iadrS 5 (.t 130) (.t 131)⟩,⟨(some 134), none, .fadr 4 (.t 133)⟩,⟨none, none, .st 1 (.t 134) (.t 132)⟩]
@[simp] def c_ref16_Write_r31 : List Ir := [⟨(some 135), none, .mov (.t 13)⟩,⟨(some 8), none, .mov (.t 135)⟩,⟨(some 9), none, .mov (.c (.int .i64 0))⟩]
@[simp] def c_ref16_Write : IFn := ⟨(.seq (.reg c_ref16_Write_r0) (.seq (.seq (.reg c_ref16_Write_r1) (.cond (.t 19) (.seq (.reg c_ref16_Write_r2) .ret) .skip)) (.seq (.seq (.reg c_ref16_Write_r3) (.cond (.t 22) (.seq (.reg c_ref16_Write_r4) .ret) .skip)) (.seq (.reg c_ref16_Write_r5) (.seq (.seq (.reg c_ref16_Write_r6) (.cond (.t 30) (.seq (.reg c_ref16_Write_r7) .ret) .skip)) (.seq (.reg c_ref16_Write_r8) (.seq (.block 0 (.seq (.reg c_ref16_Write_r9) (.cond (.t 39) (.seq (.reg c_ref16_Write_r10) .ret) (.seq (.reg c_ref16_Write_r11) (.cond (.t 43) (.seq (.reg c_ref16_Write_r12) .ret) (.seq (.reg c_ref16_Write_r13) (.cond (.t 47) (.seq (.reg c_ref16_Write_r14) .ret) .skip))))))) (.seq (.reg c_ref16_Write_r15) (.seq (.reg c_ref16_Write_r16) (.seq (.seq (.reg c_ref16_Write_r17) (.cond (.t 65) (.seq (.regd c_ref16_Write_r18 []) (.seq (.reg c_ref16_Write_r19) .ret)) .skip)) (.seq (.reg c_ref16_Write_r20) (.seq (.seq (.reg c_ref16_Write_r21) (.block 1 (.loop c_ref16_Write_l27))) (.seq (.seq (.reg c_ref16_Write_r28) (.cond (.t 125) (.reg c_ref16_Write_r29) .skip)) (.seq (.reg c_ref16_Write_r30) (.seq (.reg c_ref16_Write_r31) .ret))))))))))))))), 136, [.tmp 8, .tmp 9]⟩

theorem fc_ref16_Write : fnAt Try.prog f_ref16_Write = some c_ref16_Write := by kernel_rfl
@[simp] def c_forest_Delete_r0 : List Ir := [⟨(some 6), none, .mov (.c (.slice none 0 0))⟩,⟨(some 7), none, .mov (.c (.int .i64 0))⟩]
@[simp] def c_forest_Delete_r1 : List Ir := [⟨(some 14), none, .mov (.t 0)⟩,⟨(some 15), none, .mov (.t 1)⟩,⟨(some 16), none, .mov (.t 2)⟩,⟨(some 17), none, .call f_forest_file [(.t 14), (.t 15), (.t 16)]⟩,⟨(some 13), none, .mov (.t 17)⟩,⟨(some 18), none, .ext 0 (.t 13)⟩,⟨(some 19), none, .ext 1 (.t 13)⟩,⟨(some 20), none, .ext 2 (.t 13)⟩,⟨(some 8), none, .mov (.t 18)⟩,⟨(some 9), none, .mov (.t 19)⟩,⟨(some 10), none, .mov (.t 20)⟩]
@[simp] def c_forest_Delete_r2 : List Ir := [⟨(some 21), none, .mov (.t 10)⟩,⟨(some 22), none, .bin .neq 24 (.t 21) (.c (.int .i64 0))⟩]
@[simp] def c_forest_Delete_r3 : List Ir := [⟨(some 23), none, .mov (.t 10)⟩,⟨(some 6), none, .mov (.c (.slice none 0 0))⟩,⟨(some 7), none, .mov (.t 23)⟩]
@[simp] def c_forest_Delete_r4 : List Ir := [⟨(some 25), none, .mov (.t 9)⟩,⟨(some 26), none, .nilck (.t 25)⟩,⟨(some 27), none, .fadr 4 (.t 26)⟩,⟨(some 28), none, .ld (.t 27)⟩,⟨(some 29), none, .mov (.t 2)⟩,⟨(some 30), none, .call f_forest_FileAt [(.t 28), (.t 29)]⟩,⟨(some 24), none, .mov (.t 30)⟩,⟨(some 31), none, .ext 0 (.t 24)⟩,⟨(some 32), none, .ext 1 (.t 24)⟩,⟨(some 11), none, .mov (.t 31)⟩,⟨(some 12), none, .mov (.t 32)⟩]
@[simp] def c_forest_Delete_r5 : List Ir := [⟨(some 33), none, .mov (.t 12)⟩,⟨(some 34), none, .un .not (.t 33)⟩]
@[simp] def c_forest_Delete_r6 : List Ir := [⟨(some 6), none, .mov (.c (.slice none 0 0))⟩,⟨(some 7), none, .mov (.c (.int .i64 1908))⟩]
@[simp] def c_forest_Delete_r7 : List Ir := [⟨(some 35), none, .mov (.t 9)⟩,⟨(some 36), none, .mov (.t 9)⟩,⟨(some 37), none, .nilck (.t 36)⟩,⟨(some 38), none, .fadr 4 (.t 37)⟩,⟨(some 39), none, .ld (.t 38)⟩,⟨(some 40), none, .mov (.t 11)⟩,⟨(some 41), none, .mov (.t 11)⟩,⟨(some 42), none, .bin .add 3 (.t 41) (.c (.int .i64 1))⟩,⟨(some 43), none, .call f_slices_Delete_File [(.t 39), (.t 40), (.t 42)]⟩,⟨(some 44), none, .nilck (.t 35)⟩,⟨(some 45), none, .fadr 4 (.t 44)⟩,⟨none, none, .st 1 (.t 45) (.t 43)⟩]
@[simp] def c_forest_Delete_r8 : List Ir := [⟨(some 46), none, .mov (.t 8)⟩,⟨(some 6), none, .mov (.t 46)⟩,⟨(some 7), none, .mov (.c (.int .i64 0))⟩]
@[simp] def c_forest_Delete : IFn := ⟨(.seq (.reg c_forest_Delete_r0) (.seq (.reg c_forest_Delete_r1) (.seq (.seq (.reg c_forest_Delete_r2) (.cond (.t 22) (.seq (.reg c_forest_Delete_r3) .ret) .skip)) (.seq (.reg c_forest_Delete_r4) (.seq (.seq (.reg c_forest_Delete_r5) (.cond (.t 34) (.seq (.reg c_forest_Delete_r6) .ret) .skip)) (.seq (.reg c_forest_Delete_r7) (.seq (.reg c_forest_Delete_r8) .ret))))))), 47, [.tmp 6, .tmp 7]⟩

theorem fc_forest_Delete : fnAt Try.prog f_forest_Delete = some c_forest_Delete := by kernel_rfl
@[simp] def c_ref16_Delete_r0 : List Ir := [⟨(some 6), none, .mov (.c (.slice none 0 0))⟩,⟨(some 7), none, .mov (.c (.int .i64 0))⟩]
@[simp] def c_ref16_Delete_r1 : List Ir := [⟨(some 14), none, .mov (.t 0)⟩,⟨(some 15), none, .call f_ref16_ForestMay [(.t 14)]⟩,⟨(some 16), none, .un .not (.t 15)⟩]
@[simp] def c_ref16_Delete_r2 : List Ir := [⟨(some 6), none, .mov (.c (.slice none 0 0))⟩,⟨(some 7), none, .mov (.c (.int .i64 1900))⟩]
@[simp] def c_ref16_Delete_r3 : List Ir := [⟨(some 17), none, .mov (.t 1)⟩,⟨(some 18), none, .call f_ref16_NameMay [(.t 17)]⟩,⟨(some 19), none, .un .not (.t 18)⟩]
@[simp] def c_ref16_Delete_r4 : List Ir := [⟨(some 6), none, .mov (.c (.slice none 0 0))⟩,⟨(some 7), none, .mov (.c (.int .i64 1901))⟩]
@[simp] def c_ref16_Delete_r5 : List Ir := [⟨(some 21), none, .mov (.t 0)⟩,⟨(some 22), none, .mov (.t 1)⟩,⟨(some 23), none, .call f_ref16_active [(.t 21), (.t 22)]⟩,⟨(some 20), none, .mov (.t 23)⟩,⟨(some 24), none, .ext 0 (.t 20)⟩,⟨(some 25), none, .ext 1 (.t 20)⟩,⟨(some 8), none, .mov (.t 24)⟩,⟨(some 9), none, .mov (.t 25)⟩]
@[simp] def c_ref16_Delete_r6 : List Ir := [⟨(some 26), none, .mov (.t 9)⟩,⟨(some 27), none, .bin .neq 3 (.t 26) (.c (.int .i64 0))⟩]
@[simp] def c_ref16_Delete_r7 : List Ir := [⟨(some 28), none, .mov (.t 9)⟩,⟨(some 6), none, .mov (.c (.slice none 0 0))⟩,⟨(some 7), none, .mov (.t 28)⟩]
@[simp] def c_ref16_Delete_r8 : List Ir := [⟨(some 29), none, .mov (.t 0)⟩,⟨(some 30), none, .mov (.t 8)⟩,⟨(some 31), none, .iadrS 5 (.t 29) (.t 30)⟩,⟨(some 32), none, .fadr 4 (.t 31)⟩,⟨(some 33), none, .ld (.t 32)⟩,⟨(some 34), none, .mov (.t 2)⟩,⟨(some 35), none, .call f_ref16_fileAt [(.t 33), (.t 34)]⟩,⟨(some 10), none, .mov (.t 35)⟩]
@[simp] def c_ref16_Delete_r9 : List Ir := [⟨(some 37), none, .mov (.t 2)⟩,⟨(some 38), none, .call f_ref16_PathMay [(.t 37)]⟩,⟨(some 39), none, .un .not (.t 38)⟩,⟨(some 36), none, .mov (.t 39)⟩]
@[simp] def c_ref16_Delete_r10 : List Ir := [⟨(some 6), none, .mov (.c (.slice none 0 0))⟩,⟨(some 7), none, .mov (.c (.int .i64 1907))⟩]
@[simp] def c_ref16_Delete_r11 : List Ir := [⟨(some 41), none, .mov (.t 10)⟩,⟨(some 42), none, .bin .lss 3 (.t 41) (.c (.int .i64 0))⟩,⟨(some 40), none, .mov (.t 42)⟩]
@[simp] def c_ref16_Delete_r12 : List Ir := [⟨(some 6), none, .mov (.c (.slice none 0 0))⟩,⟨(some 7), none, .mov (.c (.int .i64 1908))⟩]
@[simp] def c_ref16_Delete_r13 : List Ir := [⟨(some 43), none, .mov (.t 0)⟩,⟨(some 44), none, .call f_ref16_Copy [(.t 43)]⟩,⟨(some 11), none, .mov (.t 44)⟩]
@[simp] def c_ref16_Delete_r14 : List Ir := [⟨(some 12), none, .mov (.c (.slice none 0 0))⟩]
@[simp] def c_ref16_Delete_r15 : List Ir := [⟨(some 13), none, .mov (.c (.int .i64 0))⟩]
@[simp] def c_ref16_Delete_r16 : List Ir := [⟨(some 45), none, .mov (.t 13)⟩,⟨(some 46), none, .mov (.t 11)⟩,⟨(some 47), none, .mov (.t 8)⟩,⟨(some 48), none, .iadrS 5 (.t 46) (.t 47)⟩,⟨(some 49), none, .fadr 4 (.t 48)⟩,⟨(some 50), none, .ld (.t 49)⟩,⟨(some 51), none, .lenV (.t 50)⟩,⟨(some 52), none, .bin .lss 3 (.t 45) (.t 51)⟩]
@[simp] def c_ref16_Delete_r17 : List Ir := [⟨(some 55), none, .mov (.t 13)⟩,⟨(some 56), none, .mov (.t 10)⟩,⟨(some 57), none, .bin .neq 3 (.t 55) (.t 56)⟩]
@[simp] def c_ref16_Delete_r18 : List Ir := [⟨(some 58), none, .mov (.t 12)⟩,⟨(some 59), none, .mov (.t 11)⟩,⟨(some 60), none, .mov (.t 8)⟩,⟨(some 61), none, .iadrS 5 (.t 59) (.t 60)⟩,⟨(some 62), none, .fadr 4 (.t 61)⟩,⟨(some 63), none, .ld (.t 62)⟩,⟨(some 64), none, .mov (.t 13)⟩,⟨(some 65), none, .iadrS 3 (.t 63) (.t 64)⟩,⟨(some 66), none, .ldn 3 (.t 65)⟩,⟨(some 67), none, .mkrow 3 1 [(.string ⟨#[]⟩), (.string ⟨#[]⟩), (.bool false)] [(0, (3, (.t 66)))]⟩,⟨(some 68), none, .app 3 40 (.t 58) (.t 67)⟩,⟨(some 12), none, .mov (.t 68)⟩]
@[simp] def c_ref16_Delete_r19 : List Ir := [⟨(some 53), none, .mov (.t 13)⟩,⟨(some 54), none, .bin .add 3 (.t 53) (.c (.int .i64 1))⟩,⟨(some 13), none, .mov (.t 54)⟩]
def c_ref16_Delete_l20 : IC := (.seq (.seq (.reg c_ref16_Delete_r16) (.cond (.t 52) .skip (.exit 1))) (.seq (.block 2 (.seq (.reg c_ref16_Delete_r17) (.cond (.t 57) (.reg c_ref16_Delete_r18) .skip))) (.reg c_ref16_Delete_r19)))
@[simp] def c_ref16_Delete_r21 : List Ir := [⟨(some 69), none, .mov (.t 11)⟩,⟨(some 70), none, .mov (.t 8)⟩,⟨(some 71), none, .mov (.t 12)⟩,⟨(some 72), none, .iadrS 5 (.t 69) (.t 70)⟩,⟨(some 73), none, .fadr 4 (.t 72)⟩,⟨none, none, .st 1 (.t 73) (.t 71)⟩]
@[simp] def c_ref16_Delete_r22 : List Ir := [⟨(some 74), none, .mov (.t 11)⟩,⟨(some 6), none, .mov (.t 74)⟩,⟨(some 7), none, .mov (.c (.int .i64 0))⟩]
@[simp] def c_ref16_Delete : IFn := ⟨(.seq (.reg c_ref16_Delete_r0) (.seq (.seq (.reg c_ref16_Delete_r1) (.cond (.t 16) (.seq (.reg c_ref16_Delete_r2) .ret) .skip)) (.seq (.seq (.reg c_ref16_Delete_r3) (.cond (.t 19) (.seq (.reg c_ref16_Delete_r4) .ret) .skip)) (.seq (.reg c_ref16_Delete_r5) (.seq (.seq (.reg c_ref16_Delete_r6) (.cond (.t 27) (.seq (.reg c_ref16_Delete_r7) .ret) .skip)) (.seq (.reg c_ref16_Delete_r8) (.seq (.block 0 (.seq (.reg c_ref16_Delete_r9) (.cond (.t 36) (.seq (.reg c_ref16_Delete_r10) .ret) (.seq (.reg c_ref16_Delete_r11) (.cond (.t 40) (.seq (.reg c_ref16_Delete_r12) .ret) .skip))))) (.seq (.reg c_ref16_Delete_r13) (.seq (.reg c_ref16_Delete_r14) (.seq (.seq (.reg c_ref16_Delete_r15) (.block 1 (.loop c_ref16_Delete_l20))) (.seq (.reg c_ref16_Delete_r21) (.seq (.reg c_ref16_Delete_r22) .ret)))))))))))), 75, [.tmp 6, .tmp 7]⟩

theorem fc_ref16_Delete : fnAt Try.prog f_ref16_Delete = some c_ref16_Delete := by kernel_rfl
@[simp] def c_law0_SameInfos_r0 : List Ir := [⟨(some 4), none, .mov (.c (.bool false))⟩]
@[simp] def c_law0_SameInfos_r1 : List Ir := [⟨(some 6), none, .mov (.t 0)⟩,⟨(some 7), none, .lenV (.t 6)⟩,⟨(some 8), none, .mov (.t 1)⟩,⟨(some 9), none, .lenV (.t 8)⟩,⟨(some 10), none, .bin .neq 3 (.t 7) (.t 9)⟩]
@[simp] def c_law0_SameInfos_r2 : List Ir := [⟨(some 4), none, .mov (.c (.bool false))⟩]
@[simp] def c_law0_SameInfos_r3 : List Ir := [⟨(some 5), none, .mov (.c (.int .i64 0))⟩]
@[simp] def c_law0_SameInfos_r4 : List Ir := [⟨(some 11), none, .mov (.t 5)⟩,⟨(some 12), none, .mov (.t 0)⟩,⟨(some 13), none, .lenV (.t 12)⟩,⟨(some 14), none, .bin .lss 3 (.t 11) (.t 13)⟩]
@[simp] def c_law0_SameInfos_r5 : List Ir := [⟨(some 17), none, .mov (.t 0)⟩,⟨(some 18), none, .mov (.t 5)⟩,⟨(some 19), none, .iadrS 5 (.t 17) (.t 18)⟩,⟨(some 20), none, .ldn 5 (.t 19)⟩,⟨(some 21), none, .mov (.t 1)⟩,⟨(some 22), none, .mov (.t 5)⟩,⟨(some 23), none, .iadrS 5 (.t 21) (.t 22)⟩,⟨(some 24), none, .ldn 5 (.t 23)⟩,⟨(some 25), none, .call f_law0_SameInfo [(.t 20), (.t 24)]⟩,⟨(some 26), none, .un .not (.t 25)⟩]
@[simp] def c_law0_SameInfos_r6 : List Ir := [⟨(some 4), none, .mov (.c (.bool false))⟩]
@[simp] def c_law0_SameInfos_r7 : List Ir := [⟨(some 15), none, .mov (.t 5)⟩,⟨(some 16), none, .bin .add 3 (.t 15) (.c (.int .i64 1))⟩,⟨(some 5), none, .mov (.t 16)⟩]
def c_law0_SameInfos_l8 : IC := (.seq (.seq (.reg c_law0_SameInfos_r4) (.cond (.t 14) .skip (.exit 0))) (.seq (.block 1 (.seq (.regd c_law0_SameInfos_r5 []) (.cond (.t 26) (.seq (.reg c_law0_SameInfos_r6) .ret) .skip))) (.reg c_law0_SameInfos_r7)))
@[simp] def c_law0_SameInfos_r9 : List Ir := [⟨(some 4), none, .mov (.c (.bool true))⟩]
@[simp] def c_law0_SameInfos : IFn := ⟨(.seq (.reg c_law0_SameInfos_r0) (.seq (.seq (.reg c_law0_SameInfos_r1) (.cond (.t 10) (.seq (.reg c_law0_SameInfos_r2) .ret) .skip)) (.seq (.seq (.reg c_law0_SameInfos_r3) (.block 0 (.loop c_law0_SameInfos_l8))) (.seq (.reg c_law0_SameInfos_r9) .ret)))), 27, [.tmp 4]⟩

theorem fc_law0_SameInfos : fnAt Try.prog f_law0_SameInfos = some c_law0_SameInfos := by kernel_rfl
@[simp] def c_law0_Num_r0 : List Ir := [⟨(some 2), none, .mov (.c (.int .i64 0))⟩]
@[simp] def c_law0_Num_r1 : List Ir := [⟨(some 3), none, .mov (.t 0)⟩,⟨(some 2), none, .mov (.t 3)⟩]
@[simp] def c_law0_Num : IFn := ⟨(.seq (.reg c_law0_Num_r0) (.seq (.reg c_law0_Num_r1) .ret)), 4, [.tmp 2]⟩

theorem fc_law0_Num : fnAt Try.prog f_law0_Num = some c_law0_Num := by kernel_rfl
@[simp] def c_forest_May_r0 : List Ir := [⟨(some 2), none, .mov (.c (.bool false))⟩]
@[simp] def c_forest_May_r1 : List Ir := [⟨(some 6), none, .mov (.t 0)⟩,⟨(some 7), none, .lenV (.t 6)⟩,⟨(some 8), none, .mov (.c (.int .i64 0))⟩]
@[simp] def c_forest_May_r2 : List Ir := [⟨(some 9), none, .bin .lss 3 (.t 8) (.t 7)⟩]
@[simp] def c_forest_May_r3 : List Ir := [⟨(some 10), none, .mov (.t 8)⟩,⟨(some 11), none, .iadrS 5 (.t 6) (.t 8)⟩,⟨(some 12), none, .ldn 5 (.t 11)⟩,⟨(some 4), none, .new [(.string ⟨#[]⟩), (.int .i64 0), (.string ⟨#[]⟩), (.string ⟨#[]⟩), (.slice none 0 0)]⟩,⟨(some 3), none, .mov (.t 10)⟩,⟨none, none, .st 5 (.t 4) (.t 12)⟩]
@[simp] def c_forest_May_r4 : List Ir := [⟨(some 13), none, .fadr 0 (.t 4)⟩,⟨(some 14), none, .ld (.t 13)⟩,⟨(some 15), none, .call f_key_IsName [(.t 14)]⟩,⟨(some 16), none, .un .not (.t 15)⟩,⟨(some 17), none, .mov (.t 16)⟩,⟨(some 18), (some (17, false)), .fadr 1 (.t 4)⟩,⟨(some 19), (some (17, false)), .ld (.t 18)⟩,⟨(some 20), (some (17, false)), .call f_snap_Kind [(.t 19)]⟩,⟨(some 21), (some (17, false)), .un .not (.t 20)⟩,⟨(some 22), none, .pick (.t 17) (.c (.bool true)) (.t 21)⟩,⟨(some 23), none, .mov (.t 22)⟩,⟨(some 24), (some (23, false)), .fadr 3 (.t 4)⟩,⟨(some 25), (some (23, false)), .ld (.t 24)⟩,⟨(some 26), (some (23, false)), .call f_snap_Label [(.t 25)]⟩,⟨(some 27), (some (23, false)), .un .not (.t 26)⟩,⟨(some 28), none, .pick (.t 23) (.c (.bool true)) (.t 27)⟩,⟨(some 29), none, .mov (.t 28)⟩,⟨(some 30), (some (29, false)), .fadr 4 (.t 4)⟩,⟨(some 31), (some (29, false)), .ld (.t 30)⟩,⟨(some 32), (some (29, false)), .fadr 1 (.t 4)⟩,⟨(some 33), (some (29, false)), .ld (.t 32)⟩,⟨(some 34), (some (29, false)), .bin .eql 3 (.t 33) (.c (.int .i64 1))⟩,⟨(some 35), (some (29, false)), .call f_forest_files [(.t 31), (.t 34)]⟩,⟨(some 36), (some (29, false)), .un .not (.t 35)⟩,⟨(some 37), none, .pick (.t 29) (.c (.bool true)) (.t 36)⟩,⟨(some 38), none, .mov (.t 37)⟩,⟨(some 39), (some (38, false)), .mov (.t 3)⟩,⟨(some 40), (some (38, false)), .bin .gtr 3 (.t 39) (.c (.int .i64 0))⟩,⟨(some 41), (some (38, false)), .mov (.t 40)⟩,⟨(some 42), (some (41, true)), .mov (.t 0)⟩,⟨(some 43), (some (41, true)), .mov (.t 3)⟩,⟨(some 44), (some (41, true)), .bin .sub 3 (.t 43) (.c (.int .i64 1))⟩,⟨(some 45), (some (41, true)), .iadrS 5 (.t 42) (.t 44)⟩,⟨(some 46), (some (41, true)), .fadr 0 (.t 45)⟩,⟨(some 47), (some (41, true)), .ld (.t 46)⟩,⟨(some 48), (some (41, true)), .fadr 0 (.t 4)⟩,⟨(some 49), (some (41, true)), .ld (.t 48)⟩,⟨(some 50), (some (41, true)), .bin .geq 9 (.t 47) (.t 49)⟩,⟨(some 51), (some (38, false)), .pick (.t 41) (.t 50) (.c (.bool false))⟩,⟨(some 52), none, .pick (.t 38) (.c (.bool true)) (.t 51)⟩]
@[simp] def c_forest_May_r5 : List Ir := [⟨(some 2), none, .mov (.c (.bool false))⟩]
@[simp] def c_forest_May_r6 : List Ir := [⟨(some 53), none, .bin .add 3 (.t 8) (.c (.int .i64 1))⟩,⟨(some 8), none, .mov (.t 53)⟩]
def c_forest_May_l7 : IC := (.seq (.reg c_forest_May_r2) (.seq (.cond (.t 9) .skip (.exit 0)) (.seq (.block 1 (.seq (.reg c_forest_May_r3) (.seq (.regd c_forest_May_r4 []) (.cond (.t 52) (.seq (.reg c_forest_May_r5) .ret) .skip)))) (.reg c_forest_May_r6))))
@[simp] def c_forest_May_r8 : List Ir := [⟨(some 54), none, .mov (.t 0)⟩,⟨(some 55), none, .lenV (.t 54)⟩,⟨(some 56), none, .mov (.c (.int .i64 0))⟩]
@[simp] def c_forest_May_r9 : List Ir := [⟨(some 57), none, .bin .lss 3 (.t 56) (.t 55)⟩]
@[simp] def c_forest_May_r10 : List Ir := [⟨(some 58), none, .mov (.t 56)⟩,⟨(some 5), none, .mov (.t 58)⟩]
@[simp] def c_forest_May_r11 : List Ir := [⟨(some 59), none, .mov (.t 0)⟩,⟨(some 60), none, .mov (.t 5)⟩,⟨(some 61), none, .call f_forest_rooted [(.t 59), (.t 60)]⟩,⟨(some 62), none, .un .not (.t 61)⟩]
@[simp] def c_forest_May_r12 : List Ir := [⟨(some 2), none, .mov (.c (.bool false))⟩]
@[simp] def c_forest_May_r13 : List Ir := [⟨(some 63), none, .bin .add 3 (.t 56) (.c (.int .i64 1))⟩,⟨(some 56), none, .mov (.t 63)⟩]
def c_forest_May_l14 : IC := (.seq (.reg c_forest_May_r9) (.seq (.cond (.t 57) .skip (.exit 2)) (.seq (.block 3 (.seq (.reg c_forest_May_r10) (.seq (.reg c_forest_May_r11) (.cond (.t 62) (.seq (.reg c_forest_May_r12) .ret) .skip)))) (.reg c_forest_May_r13))))
@[simp] def c_forest_May_r15 : List Ir := [⟨(some 64), none, .mov (.t 0)⟩,⟨(some 65), none, .lenV (.t 64)⟩,⟨(some 66), none, .bin .leq 3 (.t 65) (.c (.int .i64 6))⟩,⟨(some 2), none, .mov (.t 66)⟩]
@[simp] def c_forest_May : IFn := ⟨(.seq (.reg c_forest_May_r0) (.seq (.seq (.reg c_forest_May_r1) (.block 0 (.loop c_forest_May_l7))) (.seq (.seq (.reg c_forest_May_r8) (.block 2 (.loop c_forest_May_l14))) (.seq (.reg c_forest_May_r15) .ret)))), 67, [.tmp 2]⟩

theorem fc_forest_May : fnAt Try.prog f_forest_May = some c_forest_May := by kernel_rfl
@[simp] def c_ref16_ForestMay_r0 : List Ir := [⟨(some 2), none, .mov (.c (.bool false))⟩]
@[simp] def c_ref16_ForestMay_r1 : List Ir := [⟨(some 4), none, .mov (.t 0)⟩,⟨(some 5), none, .lenV (.t 4)⟩,⟨(some 6), none, .bin .gtr 3 (.t 5) (.c (.int .i64 6))⟩]
@[simp] def c_ref16_ForestMay_r2 : List Ir := [⟨(some 2), none, .mov (.c (.bool false))⟩]
@[simp] def c_ref16_ForestMay_r3 : List Ir := [⟨(some 3), none, .mov (.c (.int .i64 0))⟩]
@[simp] def c_ref16_ForestMay_r4 : List Ir := [⟨(some 7), none, .mov (.t 3)⟩,⟨(some 8), none, .mov (.t 0)⟩,⟨(some 9), none, .lenV (.t 8)⟩,⟨(some 10), none, .bin .lss 3 (.t 7) (.t 9)⟩]
@[simp] def c_ref16_ForestMay_r5 : List Ir := [⟨(some 13), none, .mov (.t 0)⟩,⟨(some 14), none, .mov (.t 0)⟩,⟨(some 15), none, .mov (.t 3)⟩,⟨(some 16), none, .iadrS 5 (.t 14) (.t 15)⟩,⟨(some 17), none, .ldn 5 (.t 16)⟩,⟨(some 18), none, .call f_ref16_infoMay [(.t 13), (.t 17)]⟩,⟨(some 19), none, .un .not (.t 18)⟩,⟨(some 20), none, .mov (.t 19)⟩,⟨(some 21), (some (20, false)), .mov (.t 3)⟩,⟨(some 22), (some (20, false)), .bin .gtr 3 (.t 21) (.c (.int .i64 0))⟩,⟨(some 23), (some (20, false)), .mov (.t 22)⟩,⟨(some 24), (some (23, true)), .mov (.t 0)⟩,⟨(some 25), (some (23, true)), .mov (.t 3)⟩,⟨(some 26), (some (23, true)), .iadrS 5 (.t 24) (.t 25)⟩,⟨(some 27), (some (23, true)), .fadr 0 (.t 26)⟩,⟨(some 28), (some (23, true)), .ld (.t 27)⟩,⟨(some 29), (some (23, true)), .mov (.t 0)⟩,⟨(some 30), (some (23, true)), .mov (.t 3)⟩,⟨(some 31), (some (23, true)), .bin .sub 3 (.t 30) (.c (.int .i64 1))⟩,⟨(some 32), (some (23, true)), .iadrS 5 (.t 29) (.t 31)⟩,⟨(some 33), (some (23, true)), .fadr 0 (.t 32)⟩,⟨(some 34), (some (23, true)), .ld (.t 33)⟩,⟨(some 35), (some (23, true)), .bin .leq 9 (.t 28) (.t 34)⟩,⟨(some 36), (some (20, false)), .pick (.t 23) (.t 35) (.c (.bool false))⟩,⟨(some 37), none, .pick (.t 20) (.c (.bool true)) (.t 36)⟩]
@[simp] def c_ref16_ForestMay_r6 : List Ir := [⟨(some 2), none, .mov (.c (.bool false))⟩]
@[simp] def c_ref16_ForestMay_r7 : List Ir := [⟨(some 11), none, .mov (.t 3)⟩,⟨(some 12), none, .bin .add 3 (.t 11) (.c (.int .i64 1))⟩,⟨(some 3), none, .mov (.t 12)⟩]
def c_ref16_ForestMay_l8 : IC := (.seq (.seq (.reg c_ref16_ForestMay_r4) (.cond (.t 10) .skip (.exit 0))) (.seq (.block 1 (.seq (.regd c_ref16_ForestMay_r5 []) (.cond (.t 37) (.seq (.reg c_ref16_ForestMay_r6) .ret) .skip))) (.reg c_ref16_ForestMay_r7)))
@[simp] def c_ref16_ForestMay_r9 : List Ir := [⟨(some 2), none, .mov (.c (.bool true))⟩]
@[simp] def c_ref16_ForestMay : IFn := ⟨(.seq (.reg c_ref16_ForestMay_r0) (.seq (.seq (.reg c_ref16_ForestMay_r1) (.cond (.t 6) (.seq (.reg c_ref16_ForestMay_r2) .ret) .skip)) (.seq (.seq (.reg c_ref16_ForestMay_r3) (.block 0 (.loop c_ref16_ForestMay_l8))) (.seq (.reg c_ref16_ForestMay_r9) .ret)))), 38, [.tmp 2]⟩

theorem fc_ref16_ForestMay : fnAt Try.prog f_ref16_ForestMay = some c_ref16_ForestMay := by kernel_rfl
@[simp] def c_law0_SpoilInfos_r0 : List Ir := [⟨(some 2), none, .mov (.c (.int .i64 0))⟩]
@[simp] def c_law0_SpoilInfos_r1 : List Ir := [⟨(some 3), none, .mov (.t 2)⟩,⟨(some 4), none, .mov (.t 0)⟩,⟨(some 5), none, .lenV (.t 4)⟩,⟨(some 6), none, .bin .lss 3 (.t 3) (.t 5)⟩]
@[simp] def c_law0_SpoilInfos_r2 : List Ir := [⟨(some 9), none, .mov (.t 0)⟩,⟨(some 10), none, .mov (.t 2)⟩,⟨(some 11), none, .iadrS 5 (.t 9) (.t 10)⟩,⟨(some 12), none, .fadr 4 (.t 11)⟩,⟨(some 13), none, .ld (.t 12)⟩,⟨(some 14), none, .call f_law0_SpoilFiles [(.t 13)]⟩]
@[simp] def c_law0_SpoilInfos_r3 : List Ir := [⟨(some 15), none, .mov (.t 0)⟩,⟨(some 16), none, .mov (.t 2)⟩,⟨(some 17), none, .iadrS 5 (.t 15) (.t 16)⟩,⟨(some 18), none, .fadr 0 (.t 17)⟩,⟨none, none, .st 1 (.t 18) (.c (.string ⟨#[115, 112, 111, 105, 108, 116]⟩))⟩]
@[simp] def c_law0_SpoilInfos_r4 : List Ir := [⟨(some 7), none, .mov (.t 2)⟩,⟨(some 8), none, .bin .add 3 (.t 7) (.c (.int .i64 1))⟩,⟨(some 2), none, .mov (.t 8)⟩]
def c_law0_SpoilInfos_l5 : IC := (.seq (.seq (.reg c_law0_SpoilInfos_r1) (.cond (.t 6) .skip (.exit 0))) (.seq (.block 1 (.seq (.reg c_law0_SpoilInfos_r2) (.reg c_law0_SpoilInfos_r3))) (.reg c_law0_SpoilInfos_r4)))
@[simp] def c_law0_SpoilInfos : IFn := ⟨(.seq (.reg c_law0_SpoilInfos_r0) (.block 0 (.loop c_law0_SpoilInfos_l5))), 19, []⟩

theorem fc_law0_SpoilInfos : fnAt Try.prog f_law0_SpoilInfos = some c_law0_SpoilInfos := by kernel_rfl
@[simp] def c_law19_awake_r0 : List Ir := [⟨(some 0), none, .mov (.c (.bool false))⟩]
@[simp] def c_law19_awake_r1 : List Ir := [⟨(some 20), none, .call f_law19_given []⟩,⟨(some 1), none, .mov (.t 20)⟩]
@[simp] def c_law19_awake_r2 : List Ir := [⟨(some 22), none, .mov (.t 1)⟩,⟨(some 23), none, .call f_forest_Prepare [(.t 22), (.c (.string ⟨#[118]⟩)), (.c (.string ⟨#[98, 97, 115, 101]⟩)), (.c (.int .i64 1))]⟩,⟨(some 21), none, .mov (.t 23)⟩,⟨(some 24), none, .ext 0 (.t 21)⟩,⟨(some 25), none, .ext 1 (.t 21)⟩,⟨(some 2), none, .mov (.t 24)⟩,⟨(some 3), none, .mov (.t 25)⟩]
@[simp] def c_law19_awake_r3 : List Ir := [⟨(some 27), none, .mov (.t 1)⟩,⟨(some 28), none, .call f_forest_Commit [(.t 27), (.c (.string ⟨#[119, 111, 114, 107]⟩)), (.c (.string ⟨#[110, 101, 120, 116]⟩))]⟩,⟨(some 26), none, .mov (.t 28)⟩,⟨(some 29), none, .ext 0 (.t 26)⟩,⟨(some 30), none, .ext 1 (.t 26)⟩,⟨(some 4), none, .mov (.t 29)⟩,⟨(some 5), none, .mov (.t 30)⟩]
@[simp] def c_law19_awake_r4 : List Ir := [⟨(some 32), none, .mov (.t 1)⟩,⟨(some 33), none, .call f_forest_Remove [(.t 32), (.c (.string ⟨#[98, 97, 115, 101]⟩))]⟩,⟨(some 31), none, .mov (.t 33)⟩,⟨(some 34), none, .ext 0 (.t 31)⟩,⟨(some 35), none, .ext 1 (.t 31)⟩,⟨(some 6), none, .mov (.t 34)⟩,⟨(some 7), none, .mov (.t 35)⟩]
@[simp] def c_law19_awake_r5 : List Ir := [⟨(some 37), none, .mov (.t 1)⟩,⟨(some 38), none, .call f_forest_Remove [(.t 37), (.c (.string ⟨#[119, 111, 114, 107]⟩))]⟩,⟨(some 36), none, .mov (.t 38)⟩,⟨(some 39), none, .ext 0 (.t 36)⟩,⟨(some 40), none, .ext 1 (.t 36)⟩,⟨(some 8), none, .mov (.t 39)⟩,⟨(some 9), none, .mov (.t 40)⟩]
@[simp] def c_law19_awake_r6 : List Ir := [⟨(some 42), none, .mov (.t 1)⟩,⟨(some 43), none, .call f_forest_Write [(.t 42), (.c (.string ⟨#[119, 111, 114, 107]⟩)), (.c (.string ⟨#[99]⟩)), (.c (.string ⟨#[120]⟩))]⟩,⟨(some 41), none, .mov (.t 43)⟩,⟨(some 44), none, .ext 0 (.t 41)⟩,⟨(some 45), none, .ext 1 (.t 41)⟩,⟨(some 10), none, .mov (.t 44)⟩,⟨(some 11), none, .mov (.t 45)⟩]
@[simp] def c_law19_awake_r7 : List Ir := [⟨(some 47), none, .mov (.t 1)⟩,⟨(some 48), none, .call f_forest_Delete [(.t 47), (.c (.string ⟨#[98, 97, 115, 101]⟩)), (.c (.string ⟨#[97]⟩))]⟩,⟨(some 46), none, .mov (.t 48)⟩,⟨(some 49), none, .ext 0 (.t 46)⟩,⟨(some 50), none, .ext 1 (.t 46)⟩,⟨(some 12), none, .mov (.t 49)⟩,⟨(some 13), none, .mov (.t 50)⟩]
@[simp] def c_law19_awake_r8 : List Ir := [⟨(some 52), none, .mov (.t 1)⟩,⟨(some 53), none, .call f_forest_Label [(.t 52), (.c (.string ⟨#[98, 97, 115, 101]⟩)), (.c (.string ⟨#[108, 97, 98]⟩))]⟩,⟨(some 51), none, .mov (.t 53)⟩,⟨(some 54), none, .ext 0 (.t 51)⟩,⟨(some 55), none, .ext 1 (.t 51)⟩,⟨(some 14), none, .mov (.t 54)⟩,⟨(some 15), none, .mov (.t 55)⟩]
@[simp] def c_law19_awake_r9 : List Ir := [⟨(some 57), none, .mov (.t 1)⟩,⟨(some 58), none, .call f_forest_Prepare [(.t 57), (.c (.string ⟨#[118]⟩)), (.c (.string ⟨#[119, 111, 114, 107]⟩)), (.c (.int .i64 1))]⟩,⟨(some 56), none, .mov (.t 58)⟩,⟨(some 59), none, .ext 0 (.t 56)⟩,⟨(some 60), none, .ext 1 (.t 56)⟩,⟨(some 16), none, .mov (.t 59)⟩,⟨(some 17), none, .mov (.t 60)⟩]
@[simp] def c_law19_awake_r10 : List Ir := [⟨(some 62), none, .build [(.string ⟨#[]⟩), (.int .i64 0), (.string ⟨#[]⟩), (.string ⟨#[]⟩), (.slice none 0 0)] []⟩,⟨(some 63), none, .mkrow 5 1 [(.string ⟨#[]⟩), (.int .i64 0), (.string ⟨#[]⟩), (.string ⟨#[]⟩), (.slice none 0 0)] [(0, (5, (.t 62)))]⟩,⟨(some 64), none, .call f_forest_Write [(.t 63), (.c (.string ⟨#[119, 111, 114, 107]⟩)), (.c (.string ⟨#[99]⟩)), (.c (.string ⟨#[120]⟩))]⟩,⟨(some 61), none, .mov (.t 64)⟩,⟨(some 65), none, .ext 0 (.t 61)⟩,⟨(some 66), none, .ext 1 (.t 61)⟩,⟨(some 18), none, .mov (.t 65)⟩,⟨(some 19), none, .mov (.t 66)⟩]
@[simp] def c_law19_awake_r11 : List Ir := [⟨(some 67), none, .mov (.t 2)⟩,⟨(some 68), none, .lenV (.t 67)⟩,⟨(some 69), none, .bin .neq 3 (.t 68) (.c (.int .i64 3))⟩,⟨(some 70), none, .mov (.t 69)⟩,⟨(some 71), (some (70, false)), .mov (.t 4)⟩,⟨(some 72), (some (70, false)), .lenV (.t 71)⟩,⟨(some 73), (some (70, false)), .bin .neq 3 (.t 72) (.c (.int .i64 2))⟩,⟨(some 74), none, .pick (.t 70) (.c (.bool true)) (.t 73)⟩,⟨(some 75), none, .mov (.t 74)⟩,⟨(some 76), (some (75, false)), .mov (.t 8)⟩,⟨(some 77), (some (75, false)), .lenV (.t 76)⟩,⟨(some 78), (some (75, false)), .bin .neq 3 (.t 77) (.c (.int .i64 1))⟩,⟨(some 79), none, .pick (.t 75) (.c (.bool true)) (.t 78)⟩,⟨(some 80), none, .mov (.t 79)⟩,⟨(some 81), (some (80, false)), .mov (.t 10)⟩,⟨(some 82), (some (80, false)), .lenV (.t 81)⟩,⟨(some 83), (some (80, false)), .bin .neq 3 (.t 82) (.c (.int .i64 2))⟩,⟨(some 84), none, .pick (.t 80) (.c (.bool true)) (.t 83)⟩,⟨(some 85), none, .mov (.t 84)⟩,⟨(some 86), (some (85, false)), .mov (.t 14)⟩,⟨(some 87), (some (85, false)), .lenV (.t 86)⟩,⟨(some 88), (some (85, false)), .bin .neq 3 (.t 87) (.c (.int .i64 2))⟩,⟨(some 89), none, .pick (.t 85) (.c (.bool true)) (.t 88)⟩]
@[simp] def c_law19_awake_r12 : List Ir := [⟨(some 0), none, .mov (.c (.bool false))⟩]
@[simp] def c_law19_awake_r13 : List Ir := [⟨(some 90), none, .mov (.t 2)⟩,⟨(some 91), none, .iadrS 5 (.t 90) (.c (.int .i64 1))⟩,⟨(some 92), none, .fadr 0 (.t 91)⟩,⟨(some 93), none, .ld (.t 92)⟩,⟨(some 94), none, .bin .eql 9 (.t 93) (.c (.string ⟨#[118]⟩))⟩,⟨(some 95), none, .mov (.t 94)⟩,⟨(some 96), (some (95, true)), .mov (.t 2)⟩,⟨(some 97), (some (95, true)), .iadrS 5 (.t 96) (.c (.int .i64 1))⟩,⟨(some 98), (some (95, true)), .fadr 4 (.t 97)⟩,⟨(some 99), (some (95, true)), .ld (.t 98)⟩,⟨(some 100), (some (95, true)), .lenV (.t 99)⟩,⟨(some 101), (some (95, true)), .bin .eql 3 (.t 100) (.c (.int .i64 2))⟩,⟨(some 102), none, .pick (.t 95) (.t 101) (.c (.bool false))⟩,⟨(some 103), none, .mov (.t 102)⟩,⟨(some 104), (some (103, true)), .mov (.t 2)⟩,⟨(some 105), (some (103, true)), .iadrS 5 (.t 104) (.c (.int .i64 1))⟩,⟨(some 106), (some (103, true)), .fadr 4 (.t 105)⟩,⟨(some 107), (some (103, true)), .ld (.t 106)⟩,⟨(some 108), (some (103, true)), .iadrS 3 (.t 107) (.c (.int .i64 0))⟩,⟨(some 109), (some (103, true)), .fadr 2 (.t 108)⟩,⟨(some 110), (some (103, true)), .ld (.t 109)⟩,⟨(some 111), (some (103, true)), .un .not (.t 110)⟩,⟨(some 112), none, .pick (.t 103) (.t 111) (.c (.bool false))⟩,⟨(some 113), none, .mov (.t 112)⟩,⟨(some 114), (some (113, true)), .mov (.t 3)⟩,⟨(some 115), (some (113, true)), .call f_law0_Num [(.t 114)]⟩,⟨(some 116), (some (113, true)), .bin .eql 3 (.t 115) (.c (.int .i64 0))⟩,⟨(some 117), none, .pick (.t 113) (.t 116) (.c (.bool false))⟩,⟨(some 118), none, .mov (.t 117)⟩,⟨(some 119), (some (118, true)), .mov (.t 4)⟩,⟨(some 120), (some (118, true)), .iadrS 5 (.t 119) (.c (.int .i64 1))⟩,⟨(some 121), (some (118, true)), .fadr 0 (.t 120)⟩,⟨(some 122), (some (118, true)), .ld (.t 121)⟩,⟨(some 123), (some (118, true)), .bin .eql 9 (.t 122) (.c (.string ⟨#[110, 101, 120, 116]⟩))⟩,⟨(some 124), none, .pick (.t 118) (.t 123) (.c (.bool false))⟩,⟨(some 125), none, .mov (.t 124)⟩,⟨(some 126), (some (125, true)), .mov (.t 4)⟩,⟨(some 127), (some (125, true)), .iadrS 5 (.t 126) (.c (.int .i64 1))⟩,⟨(some 128), (some (125, true)), .fadr 1 (.t 127)⟩,⟨(some 129), (some (125, true)), .ld (.t 128)⟩,⟨(some 130), (some (125, true)), .bin .eql 3 (.t 129) (.c (.int .i64 2))⟩,⟨(some 131), none, .pick (.t 125) (.t 130) (.c (.bool false))⟩,⟨(some 132), none, .mov (.t 131)⟩,⟨(some 133), (some (132, true)), .mov (.t 5)⟩,⟨(some 134), (some (132, true)), .call f_law0_Num [(.t 133)]⟩,⟨(some 135), (some (132, true)), .bin .eql 3 (.t 134) (.c (.int .i64 0))⟩,⟨(some 136), none, .pick (.t 132) (.t 135) (.c (.bool false))⟩,⟨(some 137), none, .mov (.t 136)⟩,⟨(some 138), (some (137, true)), .mov (.t 7)⟩,⟨(some 139), (some (137, true)), .call f_law0_Num [(.t 138)]⟩,⟨(some 140), (some (137, true)), .bin .eql 3 (.t 139) (.c (.int .i64 1906))⟩,⟨(some 141), none, .pick (.t 137) (.t 140) (.c (.bool false))⟩,⟨(some 142), none, .mov (.t 141)⟩,⟨(some 143), (some (142, true)), .mov (.t 9)⟩,⟨(some 144), (some (142, true)), .call f_law0_Num [(.t 143)]⟩,⟨(some 145), (some (142, true)), .bin .eql 3 (.t 144) (.c (.int .i64 0))⟩,⟨(some 146), none, .pick (.t 142) (.t 145) (.c (.bool false))⟩,⟨(some 147), none, .mov (.t 146)⟩,⟨(some 148), (some (147, true)), .mov (.t 10)⟩,⟨(some 149), (some (147, true)), .iadrS 5 (.t 148) (.c (.int .i64 1))⟩,⟨(some 150), (some (147, true)), .fadr 4 (.t 149)⟩,⟨(some 151), (some (147, true)), .ld (.t 150)⟩,⟨(some 152), (some (147, true)), .lenV (.t 151)⟩,⟨(some 153), (some (147, true)), .bin .eql 3 (.t 152) (.c (.int .i64 3))⟩,⟨(some 154), none, .pick (.t 147) (.t 153) (.c (.bool false))⟩,⟨(some 155), none, .mov (.t 154)⟩,⟨(some 156), (some (155, true)), .mov (.t 11)⟩,⟨(some 157), (some (155, true)), .call f_law0_Num [(.t 156)]⟩,⟨(some 158), (some (155, true)), .bin .eql 3 (.t 157) (.c (.int .i64 0))⟩,⟨(some 159), none, .pick (.t 155) (.t 158) (.c (.bool false))⟩,⟨(some 160), none, .mov (.t 159)⟩,⟨(some 161), (some (160, true)), .mov (.t 13)⟩,⟨(some 162), (some (160, true)), .call f_law0_Num [(.t 161)]⟩,⟨(some 163), (some (160, true)), .bin .eql 3 (.t 162) (.c (.int .i64 1905))⟩,⟨(some 164), none, .pick (.t 160) (.t 163) (.c (.bool false))⟩,⟨(some 165), none, .mov (.t 164)⟩,⟨(some 166), (some (165, true)), .mov (.t 14)⟩,⟨(some 167), (some (165, true)), .iadrS 5 (.t 166) (.c (.int .i64 0))⟩,⟨(some 168), (some (165, true)), .fadr 3 (.t 167)⟩,⟨(some 169), (some (165, true)), .ld (.t 168)⟩,⟨(some 170), (some (165, true)), .bin .eql 9 (.t 169) (.c (.string ⟨#[108, 97, 98]⟩))⟩,⟨(some 171), none, .pick (.t 165) (.t 170) (.c (.bool false))⟩,⟨(some 172), none, .mov (.t 171)⟩,⟨(some 173), (some (172, true)), .mov (.t 15)⟩,⟨(some 174), (some (172, true)), .call f_law0_Num [(.t 173)]⟩,⟨(some 175), (some (172, true)), .bin .eql 3 (.t 174) (.c (.int .i64 0))⟩,⟨(some 176), none, .pick (.t 172) (.t 175) (.c (.bool false))⟩,⟨(some 177), none, .mov (.t 176)⟩,⟨(some 178), (some (177, true)), .mov (.t 17)⟩,⟨(some 179), (some (177, true)), .call f_law0_Num [(.t 178)]⟩,⟨(some 180), (some (177, true)), .bin .eql 3 (.t 179) (.c (.int .i64 1904))⟩,⟨(some 181), none, .pick (.t 177) (.t 180) (.c (.bool false))⟩,⟨(some 182), none, .mov (.t 181)⟩,⟨(some 183), (some (182, true)), .mov (.t 19)⟩,⟨(some 184), (some (182, true)), .call f_law0_Num [(.t 183)]⟩,⟨(some 185), (some (182, true)), .bin .eql 3 (.t 184) (.c (.int .i64 1900))⟩,⟨(some 186), none, .pick (.t 182) (.t 185) (.c (.bool false))⟩,⟨(some 187), none, .mov (.t 186)⟩,⟨(some 188), (some (187, true)), .mov (.t 1)⟩,⟨(some 189), (some (187, true)), .call f_forest_May [(.t 188)]⟩,⟨(some 190), none, .pick (.t 187) (.t 189) (.c (.bool false))⟩,⟨(some 0), none, .mov (.t 190)⟩]
@[simp] def c_law19_awake : IFn := ⟨(.seq (.reg c_law19_awake_r0) (.seq (.reg c_law19_awake_r1) (.seq (.reg c_law19_awake_r2) (.seq (.reg c_law19_awake_r3) (.seq (.reg c_law19_awake_r4) (.seq (.reg c_law19_awake_r5) (.seq (.reg c_law19_awake_r6) (.seq (.reg c_law19_awake_r7) (.seq (.reg c_law19_awake_r8) (.seq (.reg c_law19_awake_r9) (.seq (.reg c_law19_awake_r10) (.seq (.seq (.reg c_law19_awake_r11) (.cond (.t 89) (.seq (.reg c_law19_awake_r12) .ret) .skip)) (.seq (.reg c_law19_awake_r13) .ret))))))))))))), 191, [.tmp 0]⟩

theorem fc_law19_awake : fnAt Try.prog f_law19_awake = some c_law19_awake := by kernel_rfl
@[simp] def c_law0_SameInfo_r0 : List Ir := [⟨(some 2), none, .box 5 (.t 0)⟩,⟨(some 3), none, .box 5 (.t 1)⟩,⟨(some 4), none, .mov (.c (.bool false))⟩]
@[simp] def c_law0_SameInfo_r1 : List Ir := [⟨(some 5), none, .fadr 0 (.t 2)⟩,⟨(some 6), none, .ld (.t 5)⟩,⟨(some 7), none, .fadr 0 (.t 3)⟩,⟨(some 8), none, .ld (.t 7)⟩,⟨(some 9), none, .bin .eql 9 (.t 6) (.t 8)⟩,⟨(some 10), none, .mov (.t 9)⟩,⟨(some 11), (some (10, true)), .fadr 1 (.t 2)⟩,⟨(some 12), (some (10, true)), .ld (.t 11)⟩,⟨(some 13), (some (10, true)), .fadr 1 (.t 3)⟩,⟨(some 14), (some (10, true)), .ld (.t 13)⟩,⟨(some 15), (some (10, true)), .bin .eql 3 (.t 12) (.t 14)⟩,⟨(some 16), none, .pick (.t 10) (.t 15) (.c (.bool false))⟩,⟨(some 17), none, .mov (.t 16)⟩,⟨(some 18), (some (17, true)), .fadr 2 (.t 2)⟩,⟨(some 19), (some (17, true)), .ld (.t 18)⟩,⟨(some 20), (some (17, true)), .fadr 2 (.t 3)⟩,⟨(some 21), (some (17, true)), .ld (.t 20)⟩,⟨(some 22), (some (17, true)), .bin .eql 9 (.t 19) (.t 21)⟩,⟨(some 23), none, .pick (.t 17) (.t 22) (.c (.bool false))⟩,⟨(some 24), none, .mov (.t 23)⟩,⟨(some 25), (some (24, true)), .fadr 3 (.t 2)⟩,⟨(some 26), (some (24, true)), .ld (.t 25)⟩,⟨(some 27), (some (24, true)), .fadr 3 (.t 3)⟩,⟨(some 28), (some (24, true)), .ld (.t 27)⟩,⟨(some 29), (some (24, true)), .bin .eql 9 (.t 26) (.t 28)⟩,⟨(some 30), none, .pick (.t 24) (.t 29) (.c (.bool false))⟩,⟨(some 31), none, .mov (.t 30)⟩,⟨(some 32), (some (31, true)), .fadr 4 (.t 2)⟩,⟨(some 33), (some (31, true)), .ld (.t 32)⟩,⟨(some 34), (some (31, true)), .fadr 4 (.t 3)⟩,⟨(some 35), (some (31, true)), .ld (.t 34)⟩,⟨(some 36), (some (31, true)), .call f_law0_SameFiles [(.t 33), (.t 35)]⟩,⟨(some 37), none, .pick (.t 31) (.t 36) (.c (.bool false))⟩,⟨(some 4), none, .mov (.t 37)⟩]
@[simp] def c_law0_SameInfo : IFn := ⟨(.seq (.reg c_law0_SameInfo_r0) (.seq (.reg c_law0_SameInfo_r1) .ret)), 38, [.tmp 4]⟩

theorem fc_law0_SameInfo : fnAt Try.prog f_law0_SameInfo = some c_law0_SameInfo := by kernel_rfl
@[simp] def c_law19_given_r0 : List Ir := [⟨(some 0), none, .mov (.c (.slice none 0 0))⟩]
@[simp] def c_law19_given_r1 : List Ir := [⟨(some 1), none, .build [(.string ⟨#[]⟩), (.string ⟨#[]⟩), (.bool false)] [(0, (1, (.c (.string ⟨#[97]⟩)))), (1, (1, (.c (.string ⟨#[111, 110, 101]⟩)))), (2, (1, (.c (.bool true))))]⟩,⟨(some 2), none, .build [(.string ⟨#[]⟩), (.string ⟨#[]⟩), (.bool false)] [(0, (1, (.c (.string ⟨#[98]⟩)))), (1, (1, (.c (.string ⟨#[116, 119, 111]⟩)))), (2, (1, (.c (.bool true))))]⟩,⟨(some 3), none, .mkrow 3 2 [(.string ⟨#[]⟩), (.string ⟨#[]⟩), (.bool false), (.string ⟨#[]⟩), (.string ⟨#[]⟩), (.bool false)] [(0, (3, (.t 1))), (3, (3, (.t 2)))]⟩,⟨(some 4), none, .build [(.string ⟨#[]⟩), (.int .i64 0), (.string ⟨#[]⟩), (.string ⟨#[]⟩), (.slice none 0 0)] [(0, (1, (.c (.string ⟨#[98, 97, 115, 101]⟩)))), (1, (1, (.c (.int .i64 2)))), (4, (1, (.t 3)))]⟩,⟨(some 5), none, .build [(.string ⟨#[]⟩), (.string ⟨#[]⟩), (.bool false)] [(0, (1, (.c (.string ⟨#[97]⟩)))), (1, (1, (.c (.string ⟨#[111, 110, 101]⟩))))]⟩,⟨(some 6), none, .build [(.string ⟨#[]⟩), (.string ⟨#[]⟩), (.bool false)] [(0, (1, (.c (.string ⟨#[98]⟩)))), (1, (1, (.c (.string ⟨#[110, 101, 119]⟩)))), (2, (1, (.c (.bool true))))]⟩,⟨(some 7), none, .mkrow 3 2 [(.string ⟨#[]⟩), (.string ⟨#[]⟩), (.bool false), (.string ⟨#[]⟩), (.string ⟨#[]⟩), (.bool false)] [(0, (3, (.t 5))), (3, (3, (.t 6)))]⟩,⟨(some 8), none, .build [(.string ⟨#[]⟩), (.int .i64 0), (.string ⟨#[]⟩), (.string ⟨#[]⟩), (.slice none 0 0)] [(0, (1, (.c (.string ⟨#[119, 111, 114, 107]⟩)))), (2, (1, (.c (.string ⟨#[98, 97, 115, 101]⟩)))), (4, (1, (.t 7)))]⟩,⟨(some 9), none, .mkrow 5 2 [(.string ⟨#[]⟩), (.int .i64 0), (.string ⟨#[]⟩), (.string ⟨#[]⟩), (.slice none 0 0), (.string ⟨#[]⟩), (.int .i64 0), (.string ⟨#[]⟩), (.string ⟨#[]⟩), (.slice none 0 0)] [(0, (5, (.t 4))), (5, (5, (.t 8)))]⟩,⟨(some 0), none, .mov (.t 9)⟩]
@[simp] def c_law19_given : IFn := ⟨(.seq (.reg c_law19_given_r0) (.seq (.reg c_law19_given_r1) .ret)), 10, [.tmp 0]⟩

theorem fc_law19_given : fnAt Try.prog f_law19_given = some c_law19_given := by kernel_rfl
@[simp] def c_forest_begin_r0 : List Ir := [⟨(some 4), none, .mov (.c (.slice none 0 0))⟩,⟨(some 5), none, .mov (.c (.int .i64 0))⟩]
@[simp] def c_forest_begin_r1 : List Ir := [⟨(some 8), none, .mov (.t 0)⟩,⟨(some 9), none, .call f_forest_May [(.t 8)]⟩,⟨(some 10), none, .un .not (.t 9)⟩]
@[simp] def c_forest_begin_r2 : List Ir := [⟨(some 4), none, .mov (.c (.slice none 0 0))⟩,⟨(some 5), none, .mov (.c (.int .i64 1900))⟩]
@[simp] def c_forest_begin_r3 : List Ir := [⟨(some 11), none, .mov (.t 1)⟩,⟨(some 12), none, .lenV (.t 11)⟩,⟨(some 13), none, .mov (.c (.int .i64 0))⟩]
@[simp] def c_forest_begin_r4 : List Ir := [⟨(some 14), none, .bin .lss 3 (.t 13) (.t 12)⟩]
@[simp] def c_forest_begin_r5 : List Ir := [⟨(some 15), none, .iadrS 1 (.t 11) (.t 13)⟩,⟨(some 16), none, .ld (.t 15)⟩,⟨(some 7), none, .mov (.t 16)⟩]
@[simp] def c_forest_begin_r6 : List Ir := [⟨(some 17), none, .mov (.t 7)⟩,⟨(some 18), none, .call f_key_IsName [(.t 17)]⟩,⟨(some 19), none, .un .not (.t 18)⟩]
@[simp] def c_forest_begin_r7 : List Ir := [⟨(some 4), none, .mov (.c (.slice none 0 0))⟩,⟨(some 5), none, .mov (.c (.int .i64 1901))⟩]
@[simp] def c_forest_begin_r8 : List Ir := [⟨(some 20), none, .bin .add 3 (.t 13) (.c (.int .i64 1))⟩,⟨(some 13), none, .mov (.t 20)⟩]
def c_forest_begin_l9 : IC := (.seq (.reg c_forest_begin_r4) (.seq (.cond (.t 14) .skip (.exit 0)) (.seq (.block 1 (.seq (.reg c_forest_begin_r5) (.seq (.reg c_forest_begin_r6) (.cond (.t 19) (.seq (.reg c_forest_begin_r7) .ret) .skip)))) (.reg c_forest_begin_r8))))
@[simp] def c_forest_begin_r10 : List Ir := [⟨(some 21), none, .mov (.t 0)⟩,⟨(some 22), none, .call f_forest_Copy [(.t 21)]⟩,⟨(some 4), none, .mov (.t 22)⟩,⟨(some 5), none, .mov (.c (.int .i64 0))⟩]
@[simp] def c_forest_begin : IFn := ⟨(.seq (.reg c_forest_begin_r0) (.seq (.seq (.reg c_forest_begin_r1) (.cond (.t 10) (.seq (.reg c_forest_begin_r2) .ret) .skip)) (.seq (.seq (.reg c_forest_begin_r3) (.block 0 (.loop c_forest_begin_l9))) (.seq (.reg c_forest_begin_r10) .ret)))), 23, [.tmp 4, .tmp 5]⟩

theorem fc_forest_begin : fnAt Try.prog f_forest_begin = some c_forest_begin := by kernel_rfl
@[simp] def c_forest_At_r0 : List Ir := [⟨(some 4), none, .mov (.c (.int .i64 0))⟩,⟨(some 5), none, .mov (.c (.bool false))⟩]
@[simp] def c_forest_At_r1 : List Ir := [⟨(some 6), none, .mov (.t 0)⟩,⟨(some 7), none, .mov (.t 1)⟩,⟨(some 8), none, .call f_slices_BinarySearchFunc_Info_string [(.t 6), (.t 7), (.c (.func (.func f_forest_At_1) #[] #[]))]⟩,⟨(some 9), none, .ext 0 (.t 8)⟩,⟨(some 10), none, .ext 1 (.t 8)⟩,⟨(some 4), none, .mov (.t 9)⟩,⟨(some 5), none, .mov (.t 10)⟩]
@[simp] def c_forest_At : IFn := ⟨(.seq (.reg c_forest_At_r0) (.seq (.reg c_forest_At_r1) .ret)), 11, [.tmp 4, .tmp 5]⟩

theorem fc_forest_At : fnAt Try.prog f_forest_At = some c_forest_At := by kernel_rfl
@[simp] def c_slices_Clone_File_r0 : List Ir := [⟨(some 2), none, .mov (.c (.slice none 0 0))⟩]
@[simp] def c_slices_Clone_File_r1 : List Ir := [⟨(some 3), none, .mov (.t 0)⟩,⟨(some 4), none, .bin .eql 43 (.t 3) (.c (.slice none 0 0))⟩]
@[simp] def c_slices_Clone_File_r2 : List Ir := [⟨(some 2), none, .mov (.c (.slice none 0 0))⟩]
@[simp] def c_slices_Clone_File_r3 : List Ir := [⟨(some 5), none, .mkrow 3 0 [] []⟩,⟨(some 6), none, .mov (.t 0)⟩,⟨(some 7), none, .app 3 40 (.t 5) (.t 6)⟩,⟨(some 2), none, .mov (.t 7)⟩]
@[simp] def c_slices_Clone_File : IFn := ⟨(.seq (.reg c_slices_Clone_File_r0) (.seq (.seq (.reg c_slices_Clone_File_r1) (.cond (.t 4) (.seq (.reg c_slices_Clone_File_r2) .ret) .skip)) (.seq (.reg c_slices_Clone_File_r3) .ret))), 8, [.tmp 2]⟩

theorem fc_slices_Clone_File : fnAt Try.prog f_slices_Clone_File = some c_slices_Clone_File := by kernel_rfl
@[simp] def c_slices_Insert_Info_r0 : List Ir := [⟨(some 6), none, .mov (.c (.slice none 0 0))⟩]
@[simp] def c_slices_Insert_Info_r1 : List Ir := [⟨(some 10), none, .mov (.t 0)⟩,⟨(some 11), none, .mov (.t 1)⟩,⟨(some 12), none, .slv 5 (.t 10) (some (.t 11)) none none⟩]
@[simp] def c_slices_Insert_Info_r2 : List Ir := [⟨(some 13), none, .mov (.t 2)⟩,⟨(some 14), none, .lenV (.t 13)⟩,⟨(some 7), none, .mov (.t 14)⟩]
@[simp] def c_slices_Insert_Info_r3 : List Ir := [⟨(some 15), none, .mov (.t 7)⟩,⟨(some 16), none, .bin .eql 3 (.t 15) (.c (.int .i64 0))⟩]
@[simp] def c_slices_Insert_Info_r4 : List Ir := [⟨(some 17), none, .mov (.t 0)⟩,⟨(some 6), none, .mov (.t 17)⟩]
@[simp] def c_slices_Insert_Info_r5 : List Ir := [⟨(some 18), none, .mov (.t 0)⟩,⟨(some 19), none, .lenV (.t 18)⟩,⟨(some 8), none, .mov (.t 19)⟩]
@[simp] def c_slices_Insert_Info_r6 : List Ir := [⟨(some 20), none, .mov (.t 1)⟩,⟨(some 21), none, .mov (.t 8)⟩,⟨(some 22), none, .bin .eql 3 (.t 20) (.t 21)⟩]
@[simp] def c_slices_Insert_Info_r7 : List Ir := [⟨(some 23), none, .mov (.t 0)⟩,⟨(some 24), none, .mov (.t 2)⟩,⟨(some 25), none, .app 5 80 (.t 23) (.t 24)⟩,⟨(some 6), none, .mov (.t 25)⟩]
@[simp] def c_slices_Insert_Info_r8 : List Ir := [⟨(some 26), none, .mov (.t 8)⟩,⟨(some 27), none, .mov (.t 7)⟩,⟨(some 28), none, .bin .add 3 (.t 26) (.t 27)⟩,⟨(some 29), none, .mov (.t 0)⟩,⟨(some 30), none, .capV (.t 29)⟩,⟨(some 31), none, .bin .gtr 3 (.t 28) (.t 30)⟩]
@[simp] def c_slices_Insert_Info_r9 : List Ir := [⟨(some 32), none, .mov (.t 0)⟩,⟨(some 33), none, .mov (.t 1)⟩,⟨(some 34), none, .slv 5 (.t 32) none (some (.t 33)) none⟩,⟨(some 35), none, .mov (.t 8)⟩,⟨(some 36), none, .mov (.t 7)⟩,⟨(some 37), none, .bin .add 3 (.t 35) (.t 36)⟩,⟨(some 38), none, .mov (.t 1)⟩,⟨(some 39), none, .bin .sub 3 (.t 37) (.t 38)⟩,⟨(some 40), none, .appZ 5 80 [(.string ⟨#[]⟩), (.int .i64 0), (.string ⟨#[]⟩), (.string ⟨#[]⟩), (.slice none 0 0)] (.t 34) (.t 39)⟩,⟨(some 9), none, .mov (.t 40)⟩]
@[simp] def c_slices_Insert_Info_r10 : List Ir := [⟨(some 41), none, .mov (.t 9)⟩,⟨(some 42), none, .mov (.t 1)⟩,⟨(some 43), none, .slv 5 (.t 41) (some (.t 42)) none none⟩,⟨(some 44), none, .mov (.t 2)⟩,⟨(some 45), none, .copy 5 (.t 43) (.t 44)⟩]
@[simp] def c_slices_Insert_Info_r11 : List Ir := [⟨(some 46), none, .mov (.t 9)⟩,⟨(some 47), none, .mov (.t 1)⟩,⟨(some 48), none, .mov (.t 7)⟩,⟨(some 49), none, .bin .add 3 (.t 47) (.t 48)⟩,⟨(some 50), none, .slv 5 (.t 46) (some (.t 49)) none none⟩,⟨(some 51), none, .mov (.t 0)⟩,⟨(some 52), none, .mov (.t 1)⟩,⟨(some 53), none, .slv 5 (.t 51) (some (.t 52)) none none⟩,⟨(some 54), none, .copy 5 (.t 50) (.t 53)⟩]
@[simp] def c_slices_Insert_Info_r12 : List Ir := [⟨(some 55), none, .mov (.t 9)⟩,⟨(some 6), none, .mov (.t 55)⟩]
@[simp] def c_slices_Insert_Info_r13 : List Ir := [⟨(some 56), none, .mov (.t 0)⟩,⟨(some 57), none, .mov (.t 8)⟩,⟨(some 58), none, .mov (.t 7)⟩,⟨(some 59), none, .bin .add 3 (.t 57) (.t 58)⟩,⟨(some 60), none, .slv 5 (.t 56) none (some (.t 59)) none⟩,⟨(some 0), none, .mov (.t 60)⟩]
@[simp] def c_slices_Insert_Info_r14 : List Ir := [⟨(some 61), none, .mov (.t 2)⟩,⟨(some 62), none, .mov (.t 0)⟩,⟨(some 63), none, .mov (.t 1)⟩,⟨(some 64), none, .mov (.t 7)⟩,⟨(some 65), none, .bin .add 3 (.t 63) (.t 64)⟩,⟨(some 66), none, .slv 5 (.t 62) (some (.t 65)) none none⟩,⟨(some 67), none, .call f_slices_overlaps_api_Info [(.t 61), (.t 66)]⟩,⟨(some 68), none, .un .not (.t 67)⟩]
@[simp] def c_slices_Insert_Info_r15 : List Ir := [⟨(some 69), none, .mov (.t 0)⟩,⟨(some 70), none, .mov (.t 1)⟩,⟨(some 71), none, .mov (.t 7)⟩,⟨(some 72), none, .bin .add 3 (.t 70) (.t 71)⟩,⟨(some 73), none, .slv 5 (.t 69) (some (.t 72)) none none⟩,⟨(some 74), none, .mov (.t 0)⟩,⟨(some 75), none, .mov (.t 1)⟩,⟨(some 76), none, .slv 5 (.t 74) (some (.t 75)) none none⟩,⟨(some 77), none, .copy 5 (.t 73) (.t 76)⟩]
@[simp] def c_slices_Insert_Info_r16 : List Ir := [⟨(some 78), none, .mov (.t 0)⟩,⟨(some 79), none, .mov (.t 1)⟩,⟨(some 80), none, .slv 5 (.t 78) (some (.t 79)) none none⟩,⟨(some 81), none, .mov (.t 2)⟩,⟨(some 82), none, .copy 5 (.t 80) (.t 81)⟩]
@[simp] def c_slices_Insert_Info_r17 : List Ir := [⟨(some 83), none, .mov (.t 0)⟩,⟨(some 6), none, .mov (.t 83)⟩]
@[simp] def c_slices_Insert_Info_r18 : List Ir := [⟨(some 84), none, .mov (.t 0)⟩,⟨(some 85), none, .mov (.t 8)⟩,⟨(some 86), none, .slv 5 (.t 84) (some (.t 85)) none none⟩,⟨(some 87), none, .mov (.t 2)⟩,⟨(some 88), none, .copy 5 (.t 86) (.t 87)⟩]
@[simp] def c_slices_Insert_Info_r19 : List Ir := [⟨(some 89), none, .mov (.t 0)⟩,⟨(some 90), none, .mov (.t 1)⟩,⟨(some 91), none, .slv 5 (.t 89) (some (.t 90)) none none⟩,⟨(some 92), none, .mov (.t 7)⟩,⟨(some 93), none, .call f_slices_rotateRight_api_Info [(.t 91), (.t 92)]⟩]
@[simp] def c_slices_Insert_Info_r20 : List Ir := [⟨(some 94), none, .mov (.t 0)⟩,⟨(some 6), none, .mov (.t 94)⟩]
@[simp] def c_slices_Insert_Info : IFn := ⟨(.seq (.reg c_slices_Insert_Info_r0) (.seq (.reg c_slices_Insert_Info_r1) (.seq (.reg c_slices_Insert_Info_r2) (.seq (.seq (.reg c_slices_Insert_Info_r3) (.cond (.t 16) (.seq (.reg c_slices_Insert_Info_r4) .ret) .skip)) (.seq (.reg c_slices_Insert_Info_r5) (.seq (.seq (.reg c_slices_Insert_Info_r6) (.cond (.t 22) (.seq (.reg c_slices_Insert_Info_r7) .ret) .skip)) (.seq (.seq (.reg c_slices_Insert_Info_r8) (.cond (.t 31) (.seq (.reg c_slices_Insert_Info_r9) (.seq (.reg c_slices_Insert_Info_r10) (.seq (.regd c_slices_Insert_Info_r11 []) (.seq (.reg c_slices_Insert_Info_r12) .ret)))) .skip)) (.seq (.reg c_slices_Insert_Info_r13) (.seq (.seq (.reg c_slices_Insert_Info_r14) (.cond (.t 68) (.seq (.regd c_slices_Insert_Info_r15 []) (.seq (.reg c_slices_Insert_Info_r16) (.seq (.reg c_slices_Insert_Info_r17) .ret))) .skip)) (.seq (.reg c_slices_Insert_Info_r18) (.seq (.reg c_slices_Insert_Info_r19) (.seq (.reg c_slices_Insert_Info_r20) .ret)))))))))))), 95, [.tmp 6]⟩

theorem fc_slices_Insert_Info : fnAt Try.prog f_slices_Insert_Info = some c_slices_Insert_Info := by kernel_rfl
@[simp] def c_ref16_At_r0 : List Ir := [⟨(some 4), none, .mov (.c (.int .i64 0))⟩]
@[simp] def c_ref16_At_r1 : List Ir := [⟨(some 5), none, .mov (.c (.int .i64 0))⟩]
@[simp] def c_ref16_At_r2 : List Ir := [⟨(some 6), none, .mov (.t 5)⟩,⟨(some 7), none, .mov (.t 0)⟩,⟨(some 8), none, .lenV (.t 7)⟩,⟨(some 9), none, .bin .lss 3 (.t 6) (.t 8)⟩]
@[simp] def c_ref16_At_r3 : List Ir := [⟨(some 12), none, .mov (.t 0)⟩,⟨(some 13), none, .mov (.t 5)⟩,⟨(some 14), none, .iadrS 5 (.t 12) (.t 13)⟩,⟨(some 15), none, .fadr 0 (.t 14)⟩,⟨(some 16), none, .ld (.t 15)⟩,⟨(some 17), none, .mov (.t 1)⟩,⟨(some 18), none, .bin .eql 9 (.t 16) (.t 17)⟩]
@[simp] def c_ref16_At_r4 : List Ir := [⟨(some 19), none, .mov (.t 5)⟩,⟨(some 4), none, .mov (.t 19)⟩]
@[simp] def c_ref16_At_r5 : List Ir := [⟨(some 10), none, .mov (.t 5)⟩,⟨(some 11), none, .bin .add 3 (.t 10) (.c (.int .i64 1))⟩,⟨(some 5), none, .mov (.t 11)⟩]
def c_ref16_At_l6 : IC := (.seq (.seq (.reg c_ref16_At_r2) (.cond (.t 9) .skip (.exit 0))) (.seq (.block 1 (.seq (.reg c_ref16_At_r3) (.cond (.t 18) (.seq (.reg c_ref16_At_r4) .ret) .skip))) (.reg c_ref16_At_r5)))
@[simp] def c_ref16_At_r7 : List Ir := [⟨(some 4), none, .mov (.c (.int .i64 (-1)))⟩]
@[simp] def c_ref16_At : IFn := ⟨(.seq (.reg c_ref16_At_r0) (.seq (.seq (.reg c_ref16_At_r1) (.block 0 (.loop c_ref16_At_l6))) (.seq (.reg c_ref16_At_r7) .ret))), 20, [.tmp 4]⟩

theorem fc_ref16_At : fnAt Try.prog f_ref16_At = some c_ref16_At := by kernel_rfl
@[simp] def c_ref16_NameMay_r0 : List Ir := [⟨(some 2), none, .mov (.c (.bool false))⟩]
@[simp] def c_ref16_NameMay_r1 : List Ir := [⟨(some 3), none, .mov (.t 0)⟩,⟨(some 4), none, .call f_ref16_word [(.t 3), (.c (.int .i64 4))]⟩,⟨(some 2), none, .mov (.t 4)⟩]
@[simp] def c_ref16_NameMay : IFn := ⟨(.seq (.reg c_ref16_NameMay_r0) (.seq (.reg c_ref16_NameMay_r1) .ret)), 5, [.tmp 2]⟩

theorem fc_ref16_NameMay : fnAt Try.prog f_ref16_NameMay = some c_ref16_NameMay := by kernel_rfl
@[simp] def c_ref16_with_r0 : List Ir := [⟨(some 3), none, .box 5 (.t 1)⟩,⟨(some 4), none, .mov (.c (.slice none 0 0))⟩]
@[simp] def c_ref16_with_r1 : List Ir := [⟨(some 5), none, .mov (.c (.slice none 0 0))⟩]
@[simp] def c_ref16_with_r2 : List Ir := [⟨(some 6), none, .mov (.c (.bool false))⟩]
@[simp] def c_ref16_with_r3 : List Ir := [⟨(some 7), none, .mov (.c (.int .i64 0))⟩]
@[simp] def c_ref16_with_r4 : List Ir := [⟨(some 8), none, .mov (.t 7)⟩,⟨(some 9), none, .mov (.t 0)⟩,⟨(some 10), none, .lenV (.t 9)⟩,⟨(some 11), none, .bin .lss 3 (.t 8) (.t 10)⟩]
@[simp] def c_ref16_with_r5 : List Ir := [⟨(some 14), none, .mov (.t 6)⟩,⟨(some 15), none, .un .not (.t 14)⟩,⟨(some 16), none, .mov (.t 15)⟩,⟨(some 17), (some (16, true)), .mov (.t 0)⟩,⟨(some 18), (some (16, true)), .mov (.t 7)⟩,⟨(some 19), (some (16, true)), .iadrS 5 (.t 17) (.t 18)⟩,⟨(some 20), (some (16, true)), .fadr 0 (.t 19)⟩,⟨(some 21), (some (16, true)), .ld (.t 20)⟩,⟨(some 22), (some (16, true)), .fadr 0 (.t 3)⟩,⟨(some 23), (some (16, true)), .ld (.t 22)⟩,⟨(some 24), (some (16, true)), .bin .gtr 9 (.t 21) (.t 23)⟩,⟨(some 25), none, .pick (.t 16) (.t 24) (.c (.bool false))⟩]
@[simp] def c_ref16_with_r6 : List Ir := [⟨(some 26), none, .mov (.t 5)⟩,⟨(some 27), none, .ldn 5 (.t 3)⟩,⟨(some 28), none, .mkrow 5 1 [(.string ⟨#[]⟩), (.int .i64 0), (.string ⟨#[]⟩), (.string ⟨#[]⟩), (.slice none 0 0)] [(0, (5, (.t 27)))]⟩,⟨(some 29), none, .app 5 80 (.t 26) (.t 28)⟩,⟨(some 5), none, .mov (.t 29)⟩]
@[simp] def c_ref16_with_r7 : List Ir := [⟨(some 6), none, .mov (.c (.bool true))⟩]
@[simp] def c_ref16_with_r8 : List Ir := [⟨(some 30), none, .mov (.t 5)⟩,⟨(some 31), none, .mov (.t 0)⟩,⟨(some 32), none, .mov (.t 7)⟩,⟨(some 33), none, .iadrS 5 (.t 31) (.t 32)⟩,⟨(some 34), none, .ldn 5 (.t 33)⟩,⟨(some 35), none, .mkrow 5 1 [(.string ⟨#[]⟩), (.int .i64 0), (.string ⟨#[]⟩), (.string ⟨#[]⟩), (.slice none 0 0)] [(0, (5, (.t 34)))]⟩,⟨(some 36), none, .app 5 80 (.t 30) (.t 35)⟩,⟨(some 5), none, .mov (.t 36)⟩]
@[simp] def c_ref16_with_r9 : List Ir := [⟨(some 12), none, .mov (.t 7)⟩,⟨(some 13), none, .bin .add 3 (.t 12) (.c (.int .i64 1))⟩,⟨(some 7), none, .mov (.t 13)⟩]
def c_ref16_with_l10 : IC := (.seq (.seq (.reg c_ref16_with_r4) (.cond (.t 11) .skip (.exit 0))) (.seq (.block 1 (.seq (.seq (.regd c_ref16_with_r5 []) (.cond (.t 25) (.seq (.reg c_ref16_with_r6) (.reg c_ref16_with_r7)) .skip)) (.reg c_ref16_with_r8))) (.reg c_ref16_with_r9)))
@[simp] def c_ref16_with_r11 : List Ir := [⟨(some 37), none, .mov (.t 6)⟩,⟨(some 38), none, .un .not (.t 37)⟩]
@[simp] def c_ref16_with_r12 : List Ir := [⟨(some 39), none, .mov (.t 5)⟩,⟨(some 40), none, .ldn 5 (.t 3)⟩,⟨(some 41), none, .mkrow 5 1 [(.string ⟨#[]⟩), (.int .i64 0), (.string ⟨#[]⟩), (.string ⟨#[]⟩), (.slice none 0 0)] [(0, (5, (.t 40)))]⟩,⟨(some 42), none, .app 5 80 (.t 39) (.t 41)⟩,⟨(some 5), none, .mov (.t 42)⟩]
@[simp] def c_ref16_with_r13 : List Ir := [⟨(some 43), none, .mov (.t 5)⟩,⟨(some 4), none, .mov (.t 43)⟩]
@[simp] def c_ref16_with : IFn := ⟨(.seq (.reg c_ref16_with_r0) (.seq (.reg c_ref16_with_r1) (.seq (.reg c_ref16_with_r2) (.seq (.seq (.reg c_ref16_with_r3) (.block 0 (.loop c_ref16_with_l10))) (.seq (.seq (.reg c_ref16_with_r11) (.cond (.t 38) (.reg c_ref16_with_r12) .skip)) (.seq (.reg c_ref16_with_r13) .ret)))))), 44, [.tmp 4]⟩

theorem fc_ref16_with : fnAt Try.prog f_ref16_with = some c_ref16_with := by kernel_rfl
@[simp] def c_ref16_Copy_r0 : List Ir := [⟨(some 2), none, .mov (.c (.slice none 0 0))⟩]
@[simp] def c_ref16_Copy_r1 : List Ir := [⟨(some 3), none, .mov (.c (.slice none 0 0))⟩]
@[simp] def c_ref16_Copy_r2 : List Ir := [⟨(some 4), none, .mov (.c (.int .i64 0))⟩]
@[simp] def c_ref16_Copy_r3 : List Ir := [⟨(some 6), none, .mov (.t 4)⟩,⟨(some 7), none, .mov (.t 0)⟩,⟨(some 8), none, .lenV (.t 7)⟩,⟨(some 9), none, .bin .lss 3 (.t 6) (.t 8)⟩]
@[simp] def c_ref16_Copy_r4 : List Ir := [⟨(some 12), none, .mov (.t 0)⟩,⟨(some 13), none, .mov (.t 4)⟩,⟨(some 14), none, .iadrS 5 (.t 12) (.t 13)⟩,⟨(some 15), none, .ldn 5 (.t 14)⟩,⟨(some 5), none, .new [(.string ⟨#[]⟩), (.int .i64 0), (.string ⟨#[]⟩), (.string ⟨#[]⟩), (.slice none 0 0)]⟩,⟨none, none, .st 5 (.t 5) (.t 15)⟩]
@[simp] def c_ref16_Copy_r5 : List Ir := [⟨(some 16), none, .mkrow 3 0 [] []⟩,⟨(some 17), none, .fadr 4 (.t 5)⟩,⟨(some 18), none, .ld (.t 17)⟩,⟨(some 19), none, .app 3 40 (.t 16) (.t 18)⟩,⟨(some 20), none, .fadr 4 (.t 5)⟩,⟨none, none, .st 1 (.t 20) (.t 19)⟩]
@[simp] def c_ref16_Copy_r6 : List Ir := [⟨(some 21), none, .mov (.t 3)⟩,⟨(some 22), none, .ldn 5 (.t 5)⟩,⟨(some 23), none, .mkrow 5 1 [(.string ⟨#[]⟩), (.int .i64 0), (.string ⟨#[]⟩), (.string ⟨#[]⟩), (.slice none 0 0)] [(0, (5, (.t 22)))]⟩,⟨(some 24), none, .app 5 80 (.t 21) (.t 23)⟩,⟨(some 3), none, .mov (.t 24)⟩]
@[simp] def c_ref16_Copy_r7 : List Ir := [⟨(some 10), none, .mov (.t 4)⟩,⟨(some 11), none, .bin .add 3 (.t 10) (.c (.int .i64 1))⟩,⟨(some 4), none, .mov (.t 11)⟩]
def c_ref16_Copy_l8 : IC := (.seq (.seq (.reg c_ref16_Copy_r3) (.cond (.t 9) .skip (.exit 0))) (.seq (.block 1 (.seq (.reg c_ref16_Copy_r4) (.seq (.reg c_ref16_Copy_r5) (.reg c_ref16_Copy_r6)))) (.reg c_ref16_Copy_r7)))
@[simp] def c_ref16_Copy_r9 : List Ir := [⟨(some 25), none, .mov (.t 3)⟩,⟨(some 2), none, .mov (.t 25)⟩]
@[simp] def c_ref16_Copy : IFn := ⟨(.seq (.reg c_ref16_Copy_r0) (.seq (.reg c_ref16_Copy_r1) (.seq (.seq (.reg c_ref16_Copy_r2) (.block 0 (.loop c_ref16_Copy_l8))) (.seq (.reg c_ref16_Copy_r9) .ret)))), 26, [.tmp 2]⟩

theorem fc_ref16_Copy : fnAt Try.prog f_ref16_Copy = some c_ref16_Copy := by kernel_rfl
@[simp] def c_forest_named_r0 : List Ir := [⟨(some 4), none, .mov (.c (.slice none 0 0))⟩,⟨(some 5), none, .mov (.c (.int .i64 0))⟩,⟨(some 6), none, .mov (.c (.int .i64 0))⟩]
@[simp] def c_forest_named_r1 : List Ir := [⟨(some 12), none, .mov (.t 0)⟩,⟨(some 13), none, .mov (.t 1)⟩,⟨(some 14), none, .call f_forest_begin [(.t 12), (.t 13)]⟩,⟨(some 11), none, .mov (.t 14)⟩,⟨(some 15), none, .ext 0 (.t 11)⟩,⟨(some 16), none, .ext 1 (.t 11)⟩,⟨(some 7), none, .mov (.t 15)⟩,⟨(some 8), none, .mov (.t 16)⟩]
@[simp] def c_forest_named_r2 : List Ir := [⟨(some 17), none, .mov (.t 8)⟩,⟨(some 18), none, .bin .neq 24 (.t 17) (.c (.int .i64 0))⟩]
@[simp] def c_forest_named_r3 : List Ir := [⟨(some 19), none, .mov (.t 8)⟩,⟨(some 4), none, .mov (.c (.slice none 0 0))⟩,⟨(some 5), none, .mov (.c (.int .i64 0))⟩,⟨(some 6), none, .mov (.t 19)⟩]
@[simp] def c_forest_named_r4 : List Ir := [⟨(some 21), none, .mov (.t 7)⟩,⟨(some 22), none, .mov (.t 1)⟩,⟨(some 23), none, .iadrS 1 (.t 22) (.c (.int .i64 0))⟩,⟨(some 24), none, .ld (.t 23)⟩,⟨(some 25), none, .call f_forest_At [(.t 21), (.t 24)]⟩,⟨(some 20), none, .mov (.t 25)⟩,⟨(some 26), none, .ext 0 (.t 20)⟩,⟨(some 27), none, .ext 1 (.t 20)⟩,⟨(some 9), none, .mov (.t 26)⟩,⟨(some 10), none, .mov (.t 27)⟩]
@[simp] def c_forest_named_r5 : List Ir := [⟨(some 28), none, .mov (.t 10)⟩,⟨(some 29), none, .un .not (.t 28)⟩]
@[simp] def c_forest_named_r6 : List Ir := [⟨(some 4), none, .mov (.c (.slice none 0 0))⟩,⟨(some 5), none, .mov (.c (.int .i64 0))⟩,⟨(some 6), none, .mov (.c (.int .i64 1903))⟩]
@[simp] def c_forest_named_r7 : List Ir := [⟨(some 30), none, .mov (.t 7)⟩,⟨(some 31), none, .mov (.t 9)⟩,⟨(some 4), none, .mov (.t 30)⟩,⟨(some 5), none, .mov (.t 31)⟩,⟨(some 6), none, .mov (.c (.int .i64 0))⟩]
@[simp] def c_forest_named : IFn := ⟨(.seq (.reg c_forest_named_r0) (.seq (.reg c_forest_named_r1) (.seq (.seq (.reg c_forest_named_r2) (.cond (.t 18) (.seq (.reg c_forest_named_r3) .ret) .skip)) (.seq (.reg c_forest_named_r4) (.seq (.seq (.reg c_forest_named_r5) (.cond (.t 29) (.seq (.reg c_forest_named_r6) .ret) .skip)) (.seq (.reg c_forest_named_r7) .ret)))))), 32, [.tmp 4, .tmp 5, .tmp 6]⟩

theorem fc_forest_named : fnAt Try.prog f_forest_named = some c_forest_named := by kernel_rfl
@[simp] def c_slices_Delete_Info_r0 : List Ir := [⟨(some 6), none, .mov (.c (.slice none 0 0))⟩]
@[simp] def c_slices_Delete_Info_r1 : List Ir := [⟨(some 8), none, .mov (.t 0)⟩,⟨(some 9), none, .mov (.t 1)⟩,⟨(some 10), none, .mov (.t 2)⟩,⟨(some 11), none, .mov (.t 0)⟩,⟨(some 12), none, .lenV (.t 11)⟩,⟨(some 13), none, .slv 5 (.t 8) (some (.t 9)) (some (.t 10)) (some (.t 12))⟩]
@[simp] def c_slices_Delete_Info_r2 : List Ir := [⟨(some 14), none, .mov (.t 1)⟩,⟨(some 15), none, .mov (.t 2)⟩,⟨(some 16), none, .bin .eql 3 (.t 14) (.t 15)⟩]
@[simp] def c_slices_Delete_Info_r3 : List Ir := [⟨(some 17), none, .mov (.t 0)⟩,⟨(some 6), none, .mov (.t 17)⟩]
@[simp] def c_slices_Delete_Info_r4 : List Ir := [⟨(some 18), none, .mov (.t 0)⟩,⟨(some 19), none, .lenV (.t 18)⟩,⟨(some 7), none, .mov (.t 19)⟩]
@[simp] def c_slices_Delete_Info_r5 : List Ir := [⟨(some 20), none, .mov (.t 0)⟩,⟨(some 21), none, .mov (.t 1)⟩,⟨(some 22), none, .slv 5 (.t 20) none (some (.t 21)) none⟩,⟨(some 23), none, .mov (.t 0)⟩,⟨(some 24), none, .mov (.t 2)⟩,⟨(some 25), none, .slv 5 (.t 23) (some (.t 24)) none none⟩,⟨(some 26), none, .app 5 80 (.t 22) (.t 25)⟩,⟨(some 0), none, .mov (.t 26)⟩]
@[simp] def c_slices_Delete_Info_r6 : List Ir := [⟨(some 27), none, .mov (.t 0)⟩,⟨(some 28), none, .mov (.t 0)⟩,⟨(some 29), none, .lenV (.t 28)⟩,⟨(some 30), none, .mov (.t 7)⟩,⟨(some 31), none, .slv 5 (.t 27) (some (.t 29)) (some (.t 30)) none⟩,⟨none, none, .clr [(.string ⟨#[]⟩), (.int .i64 0), (.string ⟨#[]⟩), (.string ⟨#[]⟩), (.slice none 0 0)] (.t 31)⟩]
@[simp] def c_slices_Delete_Info_r7 : List Ir := [⟨(some 32), none, .mov (.t 0)⟩,⟨(some 6), none, .mov (.t 32)⟩]
@[simp] def c_slices_Delete_Info : IFn := ⟨(.seq (.reg c_slices_Delete_Info_r0) (.seq (.reg c_slices_Delete_Info_r1) (.seq (.seq (.reg c_slices_Delete_Info_r2) (.cond (.t 16) (.seq (.reg c_slices_Delete_Info_r3) .ret) .skip)) (.seq (.reg c_slices_Delete_Info_r4) (.seq (.regd c_slices_Delete_Info_r5 []) (.seq (.reg c_slices_Delete_Info_r6) (.seq (.reg c_slices_Delete_Info_r7) .ret))))))), 33, [.tmp 6]⟩

theorem fc_slices_Delete_Info : fnAt Try.prog f_slices_Delete_Info = some c_slices_Delete_Info := by kernel_rfl
@[simp] def c_ref16_active_r0 : List Ir := [⟨(some 4), none, .mov (.c (.int .i64 0))⟩,⟨(some 5), none, .mov (.c (.int .i64 0))⟩]
@[simp] def c_ref16_active_r1 : List Ir := [⟨(some 7), none, .mov (.t 0)⟩,⟨(some 8), none, .mov (.t 1)⟩,⟨(some 9), none, .call f_ref16_At [(.t 7), (.t 8)]⟩,⟨(some 6), none, .mov (.t 9)⟩]
@[simp] def c_ref16_active_r2 : List Ir := [⟨(some 11), none, .mov (.t 6)⟩,⟨(some 12), none, .bin .lss 3 (.t 11) (.c (.int .i64 0))⟩,⟨(some 10), none, .mov (.t 12)⟩]
@[simp] def c_ref16_active_r3 : List Ir := [⟨(some 4), none, .mov (.c (.int .i64 0))⟩,⟨(some 5), none, .mov (.c (.int .i64 1903))⟩]
@[simp] def c_ref16_active_r4 : List Ir := [⟨(some 14), none, .mov (.t 0)⟩,⟨(some 15), none, .mov (.t 6)⟩,⟨(some 16), none, .iadrS 5 (.t 14) (.t 15)⟩,⟨(some 17), none, .fadr 1 (.t 16)⟩,⟨(some 18), none, .ld (.t 17)⟩,⟨(some 19), none, .bin .neq 3 (.t 18) (.c (.int .i64 0))⟩,⟨(some 13), none, .mov (.t 19)⟩]
@[simp] def c_ref16_active_r5 : List Ir := [⟨(some 4), none, .mov (.c (.int .i64 0))⟩,⟨(some 5), none, .mov (.c (.int .i64 1905))⟩]
@[simp] def c_ref16_active_r6 : List Ir := [⟨(some 20), none, .mov (.t 6)⟩,⟨(some 4), none, .mov (.t 20)⟩,⟨(some 5), none, .mov (.c (.int .i64 0))⟩]
@[simp] def c_ref16_active : IFn := ⟨(.seq (.reg c_ref16_active_r0) (.seq (.reg c_ref16_active_r1) (.seq (.block 0 (.seq (.reg c_ref16_active_r2) (.cond (.t 10) (.seq (.reg c_ref16_active_r3) .ret) (.seq (.reg c_ref16_active_r4) (.cond (.t 13) (.seq (.reg c_ref16_active_r5) .ret) .skip))))) (.seq (.reg c_ref16_active_r6) .ret)))), 21, [.tmp 4, .tmp 5]⟩

theorem fc_ref16_active : fnAt Try.prog f_ref16_active = some c_ref16_active := by kernel_rfl
@[simp] def c_ref16_without_r0 : List Ir := [⟨(some 4), none, .mov (.c (.slice none 0 0))⟩]
@[simp] def c_ref16_without_r1 : List Ir := [⟨(some 5), none, .mov (.c (.slice none 0 0))⟩]
@[simp] def c_ref16_without_r2 : List Ir := [⟨(some 6), none, .mov (.c (.int .i64 0))⟩]
@[simp] def c_ref16_without_r3 : List Ir := [⟨(some 7), none, .mov (.t 6)⟩,⟨(some 8), none, .mov (.t 0)⟩,⟨(some 9), none, .lenV (.t 8)⟩,⟨(some 10), none, .bin .lss 3 (.t 7) (.t 9)⟩]
@[simp] def c_ref16_without_r4 : List Ir := [⟨(some 13), none, .mov (.t 6)⟩,⟨(some 14), none, .mov (.t 1)⟩,⟨(some 15), none, .bin .neq 3 (.t 13) (.t 14)⟩]
@[simp] def c_ref16_without_r5 : List Ir := [⟨(some 16), none, .mov (.t 5)⟩,⟨(some 17), none, .mov (.t 0)⟩,⟨(some 18), none, .mov (.t 6)⟩,⟨(some 19), none, .iadrS 5 (.t 17) (.t 18)⟩,⟨(some 20), none, .ldn 5 (.t 19)⟩,⟨(some 21), none, .mkrow 5 1 [(.string ⟨#[]⟩), (.int .i64 0), (.string ⟨#[]⟩), (.string ⟨#[]⟩), (.slice none 0 0)] [(0, (5, (.t 20)))]⟩,⟨(some 22), none, .app 5 80 (.t 16) (.t 21)⟩,⟨(some 5), none, .mov (.t 22)⟩]
@[simp] def c_ref16_without_r6 : List Ir := [⟨(some 11), none, .mov (.t 6)⟩,⟨(some 12), none, .bin .add 3 (.t 11) (.c (.int .i64 1))⟩,⟨(some 6), none, .mov (.t 12)⟩]
def c_ref16_without_l7 : IC := (.seq (.seq (.reg c_ref16_without_r3) (.cond (.t 10) .skip (.exit 0))) (.seq (.block 1 (.seq (.reg c_ref16_without_r4) (.cond (.t 15) (.reg c_ref16_without_r5) .skip))) (.reg c_ref16_without_r6)))
@[simp] def c_ref16_without_r8 : List Ir := [⟨(some 23), none, .mov (.t 5)⟩,⟨(some 4), none, .mov (.t 23)⟩]
@[simp] def c_ref16_without : IFn := ⟨(.seq (.reg c_ref16_without_r0) (.seq (.reg c_ref16_without_r1) (.seq (.seq (.reg c_ref16_without_r2) (.block 0 (.loop c_ref16_without_l7))) (.seq (.reg c_ref16_without_r8) .ret)))), 24, [.tmp 4]⟩

theorem fc_ref16_without : fnAt Try.prog f_ref16_without = some c_ref16_without := by kernel_rfl
@[simp] def c_slices_ContainsFunc_Info_r0 : List Ir := [⟨(some 4), none, .mov (.c (.bool false))⟩]
@[simp] def c_slices_ContainsFunc_Info_r1 : List Ir := [⟨(some 5), none, .mov (.t 0)⟩,⟨(some 6), none, .mov (.t 1)⟩,⟨(some 7), none, .call f_slices_IndexFunc_Info [(.t 5), (.t 6)]⟩,⟨(some 8), none, .bin .geq 3 (.t 7) (.c (.int .i64 0))⟩,⟨(some 4), none, .mov (.t 8)⟩]
@[simp] def c_slices_ContainsFunc_Info : IFn := ⟨(.seq (.reg c_slices_ContainsFunc_Info_r0) (.seq (.reg c_slices_ContainsFunc_Info_r1) .ret)), 9, [.tmp 4]⟩

theorem fc_slices_ContainsFunc_Info : fnAt Try.prog f_slices_ContainsFunc_Info = some c_slices_ContainsFunc_Info := by kernel_rfl
@[simp] def c_forest_Remove_1_r0 : List Ir := [⟨(some 2), none, .box 5 (.t 0)⟩,⟨(some 3), none, .mov (.c (.bool false))⟩]
@[simp] def c_forest_Remove_1_r1 : List Ir := [⟨(some 4), none, .fadr 2 (.t 2)⟩,⟨(some 5), none, .ld (.t 4)⟩,⟨(some 6), none, .ld (.t 1)⟩,⟨(some 7), none, .bin .eql 9 (.t 5) (.t 6)⟩,⟨(some 3), none, .mov (.t 7)⟩]
@[simp] def c_forest_Remove_1 : IFn := ⟨(.seq (.reg c_forest_Remove_1_r0) (.seq (.reg c_forest_Remove_1_r1) .ret)), 8, [.tmp 3]⟩

theorem fc_forest_Remove_1 : fnAt Try.prog f_forest_Remove_1 = some c_forest_Remove_1 := by kernel_rfl
@[simp] def c_snap_Label_r0 : List Ir := [⟨(some 2), none, .mov (.c (.bool false))⟩]
@[simp] def c_snap_Label_r1 : List Ir := [⟨(some 3), none, .mov (.t 0)⟩,⟨(some 4), none, .lenS (.t 3)⟩,⟨(some 5), none, .bin .leq 3 (.t 4) (.c (.int .i64 3))⟩,⟨(some 2), none, .mov (.t 5)⟩]
@[simp] def c_snap_Label : IFn := ⟨(.seq (.reg c_snap_Label_r0) (.seq (.reg c_snap_Label_r1) .ret)), 6, [.tmp 2]⟩

theorem fc_snap_Label : fnAt Try.prog f_snap_Label = some c_snap_Label := by kernel_rfl
@[simp] def c_forest_file_r0 : List Ir := [⟨(some 6), none, .mov (.c (.slice none 0 0))⟩,⟨(some 7), none, .mov (.c (.pointer none))⟩,⟨(some 8), none, .mov (.c (.int .i64 0))⟩]
@[simp] def c_forest_file_r1 : List Ir := [⟨(some 13), none, .mov (.t 0)⟩,⟨(some 14), none, .mov (.t 1)⟩,⟨(some 15), none, .mkrow 1 1 [(.string ⟨#[]⟩)] [(0, (1, (.t 14)))]⟩,⟨(some 16), none, .call f_forest_named [(.t 13), (.t 15)]⟩,⟨(some 12), none, .mov (.t 16)⟩,⟨(some 17), none, .ext 0 (.t 12)⟩,⟨(some 18), none, .ext 1 (.t 12)⟩,⟨(some 19), none, .ext 2 (.t 12)⟩,⟨(some 9), none, .mov (.t 17)⟩,⟨(some 10), none, .mov (.t 18)⟩,⟨(some 11), none, .mov (.t 19)⟩]
@[simp] def c_forest_file_r2 : List Ir := [⟨(some 21), none, .mov (.t 11)⟩,⟨(some 22), none, .bin .neq 24 (.t 21) (.c (.int .i64 0))⟩,⟨(some 20), none, .mov (.t 22)⟩]
@[simp] def c_forest_file_r3 : List Ir := [⟨(some 23), none, .mov (.t 11)⟩,⟨(some 6), none, .mov (.c (.slice none 0 0))⟩,⟨(some 7), none, .mov (.c (.pointer none))⟩,⟨(some 8), none, .mov (.t 23)⟩]
@[simp] def c_forest_file_r4 : List Ir := [⟨(some 25), none, .mov (.t 9)⟩,⟨(some 26), none, .mov (.t 10)⟩,⟨(some 27), none, .iadrS 5 (.t 25) (.t 26)⟩,⟨(some 28), none, .fadr 1 (.t 27)⟩,⟨(some 29), none, .ld (.t 28)⟩,⟨(some 30), none, .bin .neq 3 (.t 29) (.c (.int .i64 0))⟩,⟨(some 24), none, .mov (.t 30)⟩]
@[simp] def c_forest_file_r5 : List Ir := [⟨(some 6), none, .mov (.c (.slice none 0 0))⟩,⟨(some 7), none, .mov (.c (.pointer none))⟩,⟨(some 8), none, .mov (.c (.int .i64 1905))⟩]
@[simp] def c_forest_file_r6 : List Ir := [⟨(some 32), none, .mov (.t 2)⟩,⟨(some 33), none, .call f_key_IsPath [(.t 32)]⟩,⟨(some 34), none, .un .not (.t 33)⟩,⟨(some 31), none, .mov (.t 34)⟩]
@[simp] def c_forest_file_r7 : List Ir := [⟨(some 6), none, .mov (.c (.slice none 0 0))⟩,⟨(some 7), none, .mov (.c (.pointer none))⟩,⟨(some 8), none, .mov (.c (.int .i64 1907))⟩]
@[simp] def c_forest_file_r8 : List Ir := [⟨(some 35), none, .mov (.t 9)⟩,⟨(some 36), none, .mov (.t 9)⟩,⟨(some 37), none, .mov (.t 10)⟩,⟨(some 38), none, .iadrS 5 (.t 36) (.t 37)⟩,⟨(some 6), none, .mov (.t 35)⟩,⟨(some 7), none, .mov (.t 38)⟩,⟨(some 8), none, .mov (.c (.int .i64 0))⟩]
@[simp] def c_forest_file : IFn := ⟨(.seq (.reg c_forest_file_r0) (.seq (.reg c_forest_file_r1) (.seq (.block 0 (.seq (.reg c_forest_file_r2) (.cond (.t 20) (.seq (.reg c_forest_file_r3) .ret) (.seq (.reg c_forest_file_r4) (.cond (.t 24) (.seq (.reg c_forest_file_r5) .ret) (.seq (.reg c_forest_file_r6) (.cond (.t 31) (.seq (.reg c_forest_file_r7) .ret) .skip))))))) (.seq (.regd c_forest_file_r8 []) .ret)))), 39, [.tmp 6, .tmp 7, .tmp 8]⟩

theorem fc_forest_file : fnAt Try.prog f_forest_file = some c_forest_file := by kernel_rfl
@[simp] def c_inode_Content_r0 : List Ir := [⟨(some 2), none, .mov (.c (.bool false))⟩]
@[simp] def c_inode_Content_r1 : List Ir := [⟨(some 3), none, .mov (.t 0)⟩,⟨(some 4), none, .lenS (.t 3)⟩,⟨(some 5), none, .bin .leq 3 (.t 4) (.c (.int .i64 6))⟩,⟨(some 2), none, .mov (.t 5)⟩]
@[simp] def c_inode_Content : IFn := ⟨(.seq (.reg c_inode_Content_r0) (.seq (.reg c_inode_Content_r1) .ret)), 6, [.tmp 2]⟩

theorem fc_inode_Content : fnAt Try.prog f_inode_Content = some c_inode_Content := by kernel_rfl
@[simp] def c_forest_FileAt_r0 : List Ir := [⟨(some 4), none, .mov (.c (.int .i64 0))⟩,⟨(some 5), none, .mov (.c (.bool false))⟩]
@[simp] def c_forest_FileAt_r1 : List Ir := [⟨(some 6), none, .mov (.t 0)⟩,⟨(some 7), none, .mov (.t 1)⟩,⟨(some 8), none, .call f_slices_BinarySearchFunc_File_string [(.t 6), (.t 7), (.c (.func (.func f_forest_FileAt_1) #[] #[]))]⟩,⟨(some 9), none, .ext 0 (.t 8)⟩,⟨(some 10), none, .ext 1 (.t 8)⟩,⟨(some 4), none, .mov (.t 9)⟩,⟨(some 5), none, .mov (.t 10)⟩]
@[simp] def c_forest_FileAt : IFn := ⟨(.seq (.reg c_forest_FileAt_r0) (.seq (.reg c_forest_FileAt_r1) .ret)), 11, [.tmp 4, .tmp 5]⟩

theorem fc_forest_FileAt : fnAt Try.prog f_forest_FileAt = some c_forest_FileAt := by kernel_rfl
@[simp] def c_slices_Insert_File_r0 : List Ir := [⟨(some 6), none, .mov (.c (.slice none 0 0))⟩]
@[simp] def c_slices_Insert_File_r1 : List Ir := [⟨(some 10), none, .mov (.t 0)⟩,⟨(some 11), none, .mov (.t 1)⟩,⟨(some 12), none, .slv 3 (.t 10) (some (.t 11)) none none⟩]
@[simp] def c_slices_Insert_File_r2 : List Ir := [⟨(some 13), none, .mov (.t 2)⟩,⟨(some 14), none, .lenV (.t 13)⟩,⟨(some 7), none, .mov (.t 14)⟩]
@[simp] def c_slices_Insert_File_r3 : List Ir := [⟨(some 15), none, .mov (.t 7)⟩,⟨(some 16), none, .bin .eql 3 (.t 15) (.c (.int .i64 0))⟩]
@[simp] def c_slices_Insert_File_r4 : List Ir := [⟨(some 17), none, .mov (.t 0)⟩,⟨(some 6), none, .mov (.t 17)⟩]
@[simp] def c_slices_Insert_File_r5 : List Ir := [⟨(some 18), none, .mov (.t 0)⟩,⟨(some 19), none, .lenV (.t 18)⟩,⟨(some 8), none, .mov (.t 19)⟩]
@[simp] def c_slices_Insert_File_r6 : List Ir := [⟨(some 20), none, .mov (.t 1)⟩,⟨(some 21), none, .mov (.t 8)⟩,⟨(some 22), none, .bin .eql 3 (.t 20) (.t 21)⟩]
@[simp] def c_slices_Insert_File_r7 : List Ir := [⟨(some 23), none, .mov (.t 0)⟩,⟨(some 24), none, .mov (.t 2)⟩,⟨(some 25), none, .app 3 40 (.t 23) (.t 24)⟩,⟨(some 6), none, .mov (.t 25)⟩]
@[simp] def c_slices_Insert_File_r8 : List Ir := [⟨(some 26), none, .mov (.t 8)⟩,⟨(some 27), none, .mov (.t 7)⟩,⟨(some 28), none, .bin .add 3 (.t 26) (.t 27)⟩,⟨(some 29), none, .mov (.t 0)⟩,⟨(some 30), none, .capV (.t 29)⟩,⟨(some 31), none, .bin .gtr 3 (.t 28) (.t 30)⟩]
@[simp] def c_slices_Insert_File_r9 : List Ir := [⟨(some 32), none, .mov (.t 0)⟩,⟨(some 33), none, .mov (.t 1)⟩,⟨(some 34), none, .slv 3 (.t 32) none (some (.t 33)) none⟩,⟨(some 35), none, .mov (.t 8)⟩,⟨(some 36), none, .mov (.t 7)⟩,⟨(some 37), none, .bin .add 3 (.t 35) (.t 36)⟩,⟨(some 38), none, .mov (.t 1)⟩,⟨(some 39), none, .bin .sub 3 (.t 37) (.t 38)⟩,⟨(some 40), none, .appZ 3 40 [(.string ⟨#[]⟩), (.string ⟨#[]⟩), (.bool false)] (.t 34) (.t 39)⟩,⟨(some 9), none, .mov (.t 40)⟩]
@[simp] def c_slices_Insert_File_r10 : List Ir := [⟨(some 41), none, .mov (.t 9)⟩,⟨(some 42), none, .mov (.t 1)⟩,⟨(some 43), none, .slv 3 (.t 41) (some (.t 42)) none none⟩,⟨(some 44), none, .mov (.t 2)⟩,⟨(some 45), none, .copy 3 (.t 43) (.t 44)⟩]
@[simp] def c_slices_Insert_File_r11 : List Ir := [⟨(some 46), none, .mov (.t 9)⟩,⟨(some 47), none, .mov (.t 1)⟩,⟨(some 48), none, .mov (.t 7)⟩,⟨(some 49), none, .bin .add 3 (.t 47) (.t 48)⟩,⟨(some 50), none, .slv 3 (.t 46) (some (.t 49)) none none⟩,⟨(some 51), none, .mov (.t 0)⟩,⟨(some 52), none, .mov (.t 1)⟩,⟨(some 53), none, .slv 3 (.t 51) (some (.t 52)) none none⟩,⟨(some 54), none, .copy 3 (.t 50) (.t 53)⟩]
@[simp] def c_slices_Insert_File_r12 : List Ir := [⟨(some 55), none, .mov (.t 9)⟩,⟨(some 6), none, .mov (.t 55)⟩]
@[simp] def c_slices_Insert_File_r13 : List Ir := [⟨(some 56), none, .mov (.t 0)⟩,⟨(some 57), none, .mov (.t 8)⟩,⟨(some 58), none, .mov (.t 7)⟩,⟨(some 59), none, .bin .add 3 (.t 57) (.t 58)⟩,⟨(some 60), none, .slv 3 (.t 56) none (some (.t 59)) none⟩,⟨(some 0), none, .mov (.t 60)⟩]
@[simp] def c_slices_Insert_File_r14 : List Ir := [⟨(some 61), none, .mov (.t 2)⟩,⟨(some 62), none, .mov (.t 0)⟩,⟨(some 63), none, .mov (.t 1)⟩,⟨(some 64), none, .mov (.t 7)⟩,⟨(some 65), none, .bin .add 3 (.t 63) (.t 64)⟩,⟨(some 66), none, .slv 3 (.t 62) (some (.t 65)) none none⟩,⟨(some 67), none, .call f_slices_overlaps_api_File [(.t 61), (.t 66)]⟩,⟨(some 68), none, .un .not (.t 67)⟩]
@[simp] def c_slices_Insert_File_r15 : List Ir := [⟨(some 69), none, .mov (.t 0)⟩,⟨(some 70), none, .mov (.t 1)⟩,⟨(some 71), none, .mov (.t 7)⟩,⟨(some 72), none, .bin .add 3 (.t 70) (.t 71)⟩,⟨(some 73), none, .slv 3 (.t 69) (some (.t 72)) none none⟩,⟨(some 74), none, .mov (.t 0)⟩,⟨(some 75), none, .mov (.t 1)⟩,⟨(some 76), none, .slv 3 (.t 74) (some (.t 75)) none none⟩,⟨(some 77), none, .copy 3 (.t 73) (.t 76)⟩]
@[simp] def c_slices_Insert_File_r16 : List Ir := [⟨(some 78), none, .mov (.t 0)⟩,⟨(some 79), none, .mov (.t 1)⟩,⟨(some 80), none, .slv 3 (.t 78) (some (.t 79)) none none⟩,⟨(some 81), none, .mov (.t 2)⟩,⟨(some 82), none, .copy 3 (.t 80) (.t 81)⟩]
@[simp] def c_slices_Insert_File_r17 : List Ir := [⟨(some 83), none, .mov (.t 0)⟩,⟨(some 6), none, .mov (.t 83)⟩]
@[simp] def c_slices_Insert_File_r18 : List Ir := [⟨(some 84), none, .mov (.t 0)⟩,⟨(some 85), none, .mov (.t 8)⟩,⟨(some 86), none, .slv 3 (.t 84) (some (.t 85)) none none⟩,⟨(some 87), none, .mov (.t 2)⟩,⟨(some 88), none, .copy 3 (.t 86) (.t 87)⟩]
@[simp] def c_slices_Insert_File_r19 : List Ir := [⟨(some 89), none, .mov (.t 0)⟩,⟨(some 90), none, .mov (.t 1)⟩,⟨(some 91), none, .slv 3 (.t 89) (some (.t 90)) none none⟩,⟨(some 92), none, .mov (.t 7)⟩,⟨(some 93), none, .call f_slices_rotateRight_api_File [(.t 91), (.t 92)]⟩]
@[simp] def c_slices_Insert_File_r20 : List Ir := [⟨(some 94), none, .mov (.t 0)⟩,⟨(some 6), none, .mov (.t 94)⟩]
@[simp] def c_slices_Insert_File : IFn := ⟨(.seq (.reg c_slices_Insert_File_r0) (.seq (.reg c_slices_Insert_File_r1) (.seq (.reg c_slices_Insert_File_r2) (.seq (.seq (.reg c_slices_Insert_File_r3) (.cond (.t 16) (.seq (.reg c_slices_Insert_File_r4) .ret) .skip)) (.seq (.reg c_slices_Insert_File_r5) (.seq (.seq (.reg c_slices_Insert_File_r6) (.cond (.t 22) (.seq (.reg c_slices_Insert_File_r7) .ret) .skip)) (.seq (.seq (.reg c_slices_Insert_File_r8) (.cond (.t 31) (.seq (.reg c_slices_Insert_File_r9) (.seq (.reg c_slices_Insert_File_r10) (.seq (.regd c_slices_Insert_File_r11 []) (.seq (.reg c_slices_Insert_File_r12) .ret)))) .skip)) (.seq (.reg c_slices_Insert_File_r13) (.seq (.seq (.reg c_slices_Insert_File_r14) (.cond (.t 68) (.seq (.regd c_slices_Insert_File_r15 []) (.seq (.reg c_slices_Insert_File_r16) (.seq (.reg c_slices_Insert_File_r17) .ret))) .skip)) (.seq (.reg c_slices_Insert_File_r18) (.seq (.reg c_slices_Insert_File_r19) (.seq (.reg c_slices_Insert_File_r20) .ret)))))))))))), 95, [.tmp 6]⟩

theorem fc_slices_Insert_File : fnAt Try.prog f_slices_Insert_File = some c_slices_Insert_File := by kernel_rfl
@[simp] def c_ref16_fileAt_r0 : List Ir := [⟨(some 4), none, .mov (.c (.int .i64 0))⟩]
@[simp] def c_ref16_fileAt_r1 : List Ir := [⟨(some 5), none, .mov (.c (.int .i64 0))⟩]
@[simp] def c_ref16_fileAt_r2 : List Ir := [⟨(some 6), none, .mov (.t 5)⟩,⟨(some 7), none, .mov (.t 0)⟩,⟨(some 8), none, .lenV (.t 7)⟩,⟨(some 9), none, .bin .lss 3 (.t 6) (.t 8)⟩]
@[simp] def c_ref16_fileAt_r3 : List Ir := [⟨(some 12), none, .mov (.t 0)⟩,⟨(some 13), none, .mov (.t 5)⟩,⟨(some 14), none, .iadrS 3 (.t 12) (.t 13)⟩,⟨(some 15), none, .fadr 0 (.t 14)⟩,⟨(some 16), none, .ld (.t 15)⟩,⟨(some 17), none, .mov (.t 1)⟩,⟨(some 18), none, .bin .eql 9 (.t 16) (.t 17)⟩]
@[simp] def c_ref16_fileAt_r4 : List Ir := [⟨(some 19), none, .mov (.t 5)⟩,⟨(some 4), none, .mov (.t 19)⟩]
@[simp] def c_ref16_fileAt_r5 : List Ir := [⟨(some 10), none, .mov (.t 5)⟩,⟨(some 11), none, .bin .add 3 (.t 10) (.c (.int .i64 1))⟩,⟨(some 5), none, .mov (.t 11)⟩]
def c_ref16_fileAt_l6 : IC := (.seq (.seq (.reg c_ref16_fileAt_r2) (.cond (.t 9) .skip (.exit 0))) (.seq (.block 1 (.seq (.reg c_ref16_fileAt_r3) (.cond (.t 18) (.seq (.reg c_ref16_fileAt_r4) .ret) .skip))) (.reg c_ref16_fileAt_r5)))
@[simp] def c_ref16_fileAt_r7 : List Ir := [⟨(some 4), none, .mov (.c (.int .i64 (-1)))⟩]
@[simp] def c_ref16_fileAt : IFn := ⟨(.seq (.reg c_ref16_fileAt_r0) (.seq (.seq (.reg c_ref16_fileAt_r1) (.block 0 (.loop c_ref16_fileAt_l6))) (.seq (.reg c_ref16_fileAt_r7) .ret))), 20, [.tmp 4]⟩

theorem fc_ref16_fileAt : fnAt Try.prog f_ref16_fileAt = some c_ref16_fileAt := by kernel_rfl
@[simp] def c_ref16_PathMay_r0 : List Ir := [⟨(some 2), none, .mov (.c (.bool false))⟩]
@[simp] def c_ref16_PathMay_r1 : List Ir := [⟨(some 3), none, .mov (.t 0)⟩,⟨(some 4), none, .call f_ref16_word [(.t 3), (.c (.int .i64 3))]⟩,⟨(some 2), none, .mov (.t 4)⟩]
@[simp] def c_ref16_PathMay : IFn := ⟨(.seq (.reg c_ref16_PathMay_r0) (.seq (.reg c_ref16_PathMay_r1) .ret)), 5, [.tmp 2]⟩

theorem fc_ref16_PathMay : fnAt Try.prog f_ref16_PathMay = some c_ref16_PathMay := by kernel_rfl
@[simp] def c_slices_Delete_File_r0 : List Ir := [⟨(some 6), none, .mov (.c (.slice none 0 0))⟩]
@[simp] def c_slices_Delete_File_r1 : List Ir := [⟨(some 8), none, .mov (.t 0)⟩,⟨(some 9), none, .mov (.t 1)⟩,⟨(some 10), none, .mov (.t 2)⟩,⟨(some 11), none, .mov (.t 0)⟩,⟨(some 12), none, .lenV (.t 11)⟩,⟨(some 13), none, .slv 3 (.t 8) (some (.t 9)) (some (.t 10)) (some (.t 12))⟩]
@[simp] def c_slices_Delete_File_r2 : List Ir := [⟨(some 14), none, .mov (.t 1)⟩,⟨(some 15), none, .mov (.t 2)⟩,⟨(some 16), none, .bin .eql 3 (.t 14) (.t 15)⟩]
@[simp] def c_slices_Delete_File_r3 : List Ir := [⟨(some 17), none, .mov (.t 0)⟩,⟨(some 6), none, .mov (.t 17)⟩]
@[simp] def c_slices_Delete_File_r4 : List Ir := [⟨(some 18), none, .mov (.t 0)⟩,⟨(some 19), none, .lenV (.t 18)⟩,⟨(some 7), none, .mov (.t 19)⟩]
@[simp] def c_slices_Delete_File_r5 : List Ir := [⟨(some 20), none, .mov (.t 0)⟩,⟨(some 21), none, .mov (.t 1)⟩,⟨(some 22), none, .slv 3 (.t 20) none (some (.t 21)) none⟩,⟨(some 23), none, .mov (.t 0)⟩,⟨(some 24), none, .mov (.t 2)⟩,⟨(some 25), none, .slv 3 (.t 23) (some (.t 24)) none none⟩,⟨(some 26), none, .app 3 40 (.t 22) (.t 25)⟩,⟨(some 0), none, .mov (.t 26)⟩]
@[simp] def c_slices_Delete_File_r6 : List Ir := [⟨(some 27), none, .mov (.t 0)⟩,⟨(some 28), none, .mov (.t 0)⟩,⟨(some 29), none, .lenV (.t 28)⟩,⟨(some 30), none, .mov (.t 7)⟩,⟨(some 31), none, .slv 3 (.t 27) (some (.t 29)) (some (.t 30)) none⟩,⟨none, none, .clr [(.string ⟨#[]⟩), (.string ⟨#[]⟩), (.bool false)] (.t 31)⟩]
@[simp] def c_slices_Delete_File_r7 : List Ir := [⟨(some 32), none, .mov (.t 0)⟩,⟨(some 6), none, .mov (.t 32)⟩]
@[simp] def c_slices_Delete_File : IFn := ⟨(.seq (.reg c_slices_Delete_File_r0) (.seq (.reg c_slices_Delete_File_r1) (.seq (.seq (.reg c_slices_Delete_File_r2) (.cond (.t 16) (.seq (.reg c_slices_Delete_File_r3) .ret) .skip)) (.seq (.reg c_slices_Delete_File_r4) (.seq (.regd c_slices_Delete_File_r5 []) (.seq (.reg c_slices_Delete_File_r6) (.seq (.reg c_slices_Delete_File_r7) .ret))))))), 33, [.tmp 6]⟩

theorem fc_slices_Delete_File : fnAt Try.prog f_slices_Delete_File = some c_slices_Delete_File := by kernel_rfl
@[simp] def c_key_IsName_r0 : List Ir := [⟨(some 2), none, .mov (.c (.bool false))⟩]
@[simp] def c_key_IsName_r1 : List Ir := [⟨(some 3), none, .mov (.t 0)⟩,⟨(some 4), none, .call f_key_word [(.t 3), (.c (.int .i64 4))]⟩,⟨(some 2), none, .mov (.t 4)⟩]
@[simp] def c_key_IsName : IFn := ⟨(.seq (.reg c_key_IsName_r0) (.seq (.reg c_key_IsName_r1) .ret)), 5, [.tmp 2]⟩

theorem fc_key_IsName : fnAt Try.prog f_key_IsName = some c_key_IsName := by kernel_rfl
@[simp] def c_snap_Kind_r0 : List Ir := [⟨(some 2), none, .mov (.c (.bool false))⟩]
@[simp] def c_snap_Kind_r1 : List Ir := [⟨(some 3), none, .mov (.t 0)⟩,⟨(some 4), none, .bin .geq 3 (.t 3) (.c (.int .i64 0))⟩,⟨(some 5), none, .mov (.t 4)⟩,⟨(some 6), (some (5, true)), .mov (.t 0)⟩,⟨(some 7), (some (5, true)), .bin .leq 3 (.t 6) (.c (.int .i64 2))⟩,⟨(some 8), none, .pick (.t 5) (.t 7) (.c (.bool false))⟩,⟨(some 2), none, .mov (.t 8)⟩]
@[simp] def c_snap_Kind : IFn := ⟨(.seq (.reg c_snap_Kind_r0) (.seq (.reg c_snap_Kind_r1) .ret)), 9, [.tmp 2]⟩

theorem fc_snap_Kind : fnAt Try.prog f_snap_Kind = some c_snap_Kind := by kernel_rfl
@[simp] def c_forest_files_r0 : List Ir := [⟨(some 4), none, .mov (.c (.bool false))⟩]
@[simp] def c_forest_files_r1 : List Ir := [⟨(some 7), none, .mov (.t 0)⟩,⟨(some 8), none, .lenV (.t 7)⟩,⟨(some 9), none, .mov (.c (.int .i64 0))⟩]
@[simp] def c_forest_files_r2 : List Ir := [⟨(some 10), none, .bin .lss 3 (.t 9) (.t 8)⟩]
@[simp] def c_forest_files_r3 : List Ir := [⟨(some 11), none, .mov (.t 9)⟩,⟨(some 12), none, .iadrS 3 (.t 7) (.t 9)⟩,⟨(some 13), none, .ldn 3 (.t 12)⟩,⟨(some 6), none, .new [(.string ⟨#[]⟩), (.string ⟨#[]⟩), (.bool false)]⟩,⟨(some 5), none, .mov (.t 11)⟩,⟨none, none, .st 3 (.t 6) (.t 13)⟩]
@[simp] def c_forest_files_r4 : List Ir := [⟨(some 14), none, .fadr 0 (.t 6)⟩,⟨(some 15), none, .ld (.t 14)⟩,⟨(some 16), none, .call f_key_IsPath [(.t 15)]⟩,⟨(some 17), none, .un .not (.t 16)⟩,⟨(some 18), none, .mov (.t 17)⟩,⟨(some 19), (some (18, false)), .fadr 1 (.t 6)⟩,⟨(some 20), (some (18, false)), .ld (.t 19)⟩,⟨(some 21), (some (18, false)), .call f_inode_Content [(.t 20)]⟩,⟨(some 22), (some (18, false)), .un .not (.t 21)⟩,⟨(some 23), none, .pick (.t 18) (.c (.bool true)) (.t 22)⟩,⟨(some 24), none, .mov (.t 23)⟩,⟨(some 25), (some (24, false)), .mov (.t 1)⟩,⟨(some 26), (some (24, false)), .mov (.t 25)⟩,⟨(some 27), (some (26, true)), .fadr 2 (.t 6)⟩,⟨(some 28), (some (26, true)), .ld (.t 27)⟩,⟨(some 29), (some (24, false)), .pick (.t 26) (.t 28) (.c (.bool false))⟩,⟨(some 30), none, .pick (.t 24) (.c (.bool true)) (.t 29)⟩,⟨(some 31), none, .mov (.t 30)⟩,⟨(some 32), (some (31, false)), .mov (.t 5)⟩,⟨(some 33), (some (31, false)), .bin .gtr 3 (.t 32) (.c (.int .i64 0))⟩,⟨(some 34), (some (31, false)), .mov (.t 33)⟩,⟨(some 35), (some (34, true)), .mov (.t 0)⟩,⟨(some 36), (some (34, true)), .mov (.t 5)⟩,⟨(some 37), (some (34, true)), .bin .sub 3 (.t 36) (.c (.int .i64 1))⟩,⟨(some 38), (some (34, true)), .iadrS 3 (.t 35) (.t 37)⟩,⟨(some 39), (some (34, true)), .fadr 0 (.t 38)⟩,⟨(some 40), (some (34, true)), .ld (.t 39)⟩,⟨(some 41), (some (34, true)), .fadr 0 (.t 6)⟩,⟨(some 42), (some (34, true)), .ld (.t 41)⟩,⟨(some 43), (some (34, true)), .bin .geq 9 (.t 40) (.t 42)⟩,⟨(some 44), (some (31, false)), .pick (.t 34) (.t 43) (.c (.bool false))⟩,⟨(some 45), none, .pick (.t 31) (.c (.bool true)) (.t 44)⟩]
@[simp] def c_forest_files_r5 : List Ir := [⟨(some 4), none, .mov (.c (.bool false))⟩]
@[simp] def c_forest_files_r6 : List Ir := [⟨(some 46), none, .bin .add 3 (.t 9) (.c (.int .i64 1))⟩,⟨(some 9), none, .mov (.t 46)⟩]
def c_forest_files_l7 : IC := (.seq (.reg c_forest_files_r2) (.seq (.cond (.t 10) .skip (.exit 0)) (.seq (.block 1 (.seq (.reg c_forest_files_r3) (.seq (.regd c_forest_files_r4 []) (.cond (.t 45) (.seq (.reg c_forest_files_r5) .ret) .skip)))) (.reg c_forest_files_r6))))
@[simp] def c_forest_files_r8 : List Ir := [⟨(some 47), none, .mov (.t 0)⟩,⟨(some 48), none, .lenV (.t 47)⟩,⟨(some 49), none, .bin .leq 3 (.t 48) (.c (.int .i64 4))⟩,⟨(some 4), none, .mov (.t 49)⟩]
@[simp] def c_forest_files : IFn := ⟨(.seq (.reg c_forest_files_r0) (.seq (.seq (.reg c_forest_files_r1) (.block 0 (.loop c_forest_files_l7))) (.seq (.reg c_forest_files_r8) .ret))), 50, [.tmp 4]⟩

theorem fc_forest_files : fnAt Try.prog f_forest_files = some c_forest_files := by kernel_rfl
@[simp] def c_forest_rooted_r0 : List Ir := [⟨(some 4), none, .mov (.c (.bool false))⟩]
@[simp] def c_forest_rooted_r1 : List Ir := [⟨(some 8), none, .mov (.t 0)⟩,⟨(some 9), none, .lenV (.t 8)⟩,⟨(some 10), none, .mov (.c (.int .i64 0))⟩]
@[simp] def c_forest_rooted_r2 : List Ir := [⟨(some 11), none, .bin .lss 3 (.t 10) (.t 9)⟩]
@[simp] def c_forest_rooted_r3 : List Ir := [⟨(some 12), none, .mov (.t 0)⟩,⟨(some 13), none, .mov (.t 1)⟩,⟨(some 14), none, .iadrS 5 (.t 12) (.t 13)⟩,⟨(some 15), none, .fadr 2 (.t 14)⟩,⟨(some 16), none, .ld (.t 15)⟩,⟨(some 5), none, .mov (.t 16)⟩]
@[simp] def c_forest_rooted_r4 : List Ir := [⟨(some 17), none, .mov (.t 5)⟩,⟨(some 18), none, .bin .eql 9 (.t 17) (.c (.string ⟨#[]⟩))⟩]
@[simp] def c_forest_rooted_r5 : List Ir := [⟨(some 4), none, .mov (.c (.bool true))⟩]
@[simp] def c_forest_rooted_r6 : List Ir := [⟨(some 20), none, .mov (.t 0)⟩,⟨(some 21), none, .mov (.t 5)⟩,⟨(some 22), none, .call f_forest_At [(.t 20), (.t 21)]⟩,⟨(some 19), none, .mov (.t 22)⟩,⟨(some 23), none, .ext 0 (.t 19)⟩,⟨(some 24), none, .ext 1 (.t 19)⟩,⟨(some 6), none, .mov (.t 23)⟩,⟨(some 7), none, .mov (.t 24)⟩]
@[simp] def c_forest_rooted_r7 : List Ir := [⟨(some 25), none, .mov (.t 7)⟩,⟨(some 26), none, .un .not (.t 25)⟩,⟨(some 27), none, .mov (.t 26)⟩,⟨(some 28), (some (27, false)), .mov (.t 0)⟩,⟨(some 29), (some (27, false)), .mov (.t 6)⟩,⟨(some 30), (some (27, false)), .iadrS 5 (.t 28) (.t 29)⟩,⟨(some 31), (some (27, false)), .fadr 1 (.t 30)⟩,⟨(some 32), (some (27, false)), .ld (.t 31)⟩,⟨(some 33), (some (27, false)), .bin .neq 3 (.t 32) (.c (.int .i64 2))⟩,⟨(some 34), none, .pick (.t 27) (.c (.bool true)) (.t 33)⟩]
@[simp] def c_forest_rooted_r8 : List Ir := [⟨(some 4), none, .mov (.c (.bool false))⟩]
@[simp] def c_forest_rooted_r9 : List Ir := [⟨(some 35), none, .mov (.t 6)⟩,⟨(some 1), none, .mov (.t 35)⟩]
@[simp] def c_forest_rooted_r10 : List Ir := [⟨(some 36), none, .bin .add 3 (.t 10) (.c (.int .i64 1))⟩,⟨(some 10), none, .mov (.t 36)⟩]
def c_forest_rooted_l11 : IC := (.seq (.reg c_forest_rooted_r2) (.seq (.cond (.t 11) .skip (.exit 0)) (.seq (.block 1 (.seq (.reg c_forest_rooted_r3) (.seq (.seq (.reg c_forest_rooted_r4) (.cond (.t 18) (.seq (.reg c_forest_rooted_r5) .ret) .skip)) (.seq (.reg c_forest_rooted_r6) (.seq (.seq (.reg c_forest_rooted_r7) (.cond (.t 34) (.seq (.reg c_forest_rooted_r8) .ret) .skip)) (.reg c_forest_rooted_r9)))))) (.reg c_forest_rooted_r10))))
@[simp] def c_forest_rooted_r12 : List Ir := [⟨(some 4), none, .mov (.c (.bool false))⟩]
@[simp] def c_forest_rooted : IFn := ⟨(.seq (.reg c_forest_rooted_r0) (.seq (.seq (.reg c_forest_rooted_r1) (.block 0 (.loop c_forest_rooted_l11))) (.seq (.reg c_forest_rooted_r12) .ret))), 37, [.tmp 4]⟩

theorem fc_forest_rooted : fnAt Try.prog f_forest_rooted = some c_forest_rooted := by kernel_rfl
@[simp] def c_ref16_infoMay_r0 : List Ir := [⟨(some 3), none, .box 5 (.t 1)⟩,⟨(some 4), none, .mov (.c (.bool false))⟩]
@[simp] def c_ref16_infoMay_r1 : List Ir := [⟨(some 10), none, .fadr 0 (.t 3)⟩,⟨(some 11), none, .ld (.t 10)⟩,⟨(some 12), none, .call f_ref16_NameMay [(.t 11)]⟩,⟨(some 13), none, .un .not (.t 12)⟩,⟨(some 14), none, .mov (.t 13)⟩,⟨(some 15), (some (14, false)), .fadr 1 (.t 3)⟩,⟨(some 16), (some (14, false)), .ld (.t 15)⟩,⟨(some 17), (some (14, false)), .bin .lss 3 (.t 16) (.c (.int .i64 0))⟩,⟨(some 18), none, .pick (.t 14) (.c (.bool true)) (.t 17)⟩,⟨(some 19), none, .mov (.t 18)⟩,⟨(some 20), (some (19, false)), .fadr 1 (.t 3)⟩,⟨(some 21), (some (19, false)), .ld (.t 20)⟩,⟨(some 22), (some (19, false)), .bin .gtr 3 (.t 21) (.c (.int .i64 2))⟩,⟨(some 23), none, .pick (.t 19) (.c (.bool true)) (.t 22)⟩,⟨(some 24), none, .mov (.t 23)⟩,⟨(some 25), (some (24, false)), .fadr 3 (.t 3)⟩,⟨(some 26), (some (24, false)), .ld (.t 25)⟩,⟨(some 27), (some (24, false)), .lenS (.t 26)⟩,⟨(some 28), (some (24, false)), .bin .gtr 3 (.t 27) (.c (.int .i64 3))⟩,⟨(some 29), none, .pick (.t 24) (.c (.bool true)) (.t 28)⟩,⟨(some 30), none, .mov (.t 29)⟩,⟨(some 31), (some (30, false)), .fadr 4 (.t 3)⟩,⟨(some 32), (some (30, false)), .ld (.t 31)⟩,⟨(some 33), (some (30, false)), .lenV (.t 32)⟩,⟨(some 34), (some (30, false)), .bin .gtr 3 (.t 33) (.c (.int .i64 4))⟩,⟨(some 35), none, .pick (.t 30) (.c (.bool true)) (.t 34)⟩]
@[simp] def c_ref16_infoMay_r2 : List Ir := [⟨(some 4), none, .mov (.c (.bool false))⟩]
@[simp] def c_ref16_infoMay_r3 : List Ir := [⟨(some 5), none, .mov (.c (.int .i64 0))⟩]
@[simp] def c_ref16_infoMay_r4 : List Ir := [⟨(some 36), none, .mov (.t 5)⟩,⟨(some 37), none, .fadr 4 (.t 3)⟩,⟨(some 38), none, .ld (.t 37)⟩,⟨(some 39), none, .lenV (.t 38)⟩,⟨(some 40), none, .bin .lss 3 (.t 36) (.t 39)⟩]
@[simp] def c_ref16_infoMay_r5 : List Ir := [⟨(some 43), none, .fadr 4 (.t 3)⟩,⟨(some 44), none, .ld (.t 43)⟩,⟨(some 45), none, .mov (.t 5)⟩,⟨(some 46), none, .iadrS 3 (.t 44) (.t 45)⟩,⟨(some 47), none, .ldn 3 (.t 46)⟩,⟨(some 6), none, .new [(.string ⟨#[]⟩), (.string ⟨#[]⟩), (.bool false)]⟩,⟨none, none, .st 3 (.t 6) (.t 47)⟩]
@[simp] def c_ref16_infoMay_r6 : List Ir := [⟨(some 48), none, .fadr 0 (.t 6)⟩,⟨(some 49), none, .ld (.t 48)⟩,⟨(some 50), none, .call f_ref16_PathMay [(.t 49)]⟩,⟨(some 51), none, .un .not (.t 50)⟩,⟨(some 52), none, .mov (.t 51)⟩,⟨(some 53), (some (52, false)), .fadr 1 (.t 6)⟩,⟨(some 54), (some (52, false)), .ld (.t 53)⟩,⟨(some 55), (some (52, false)), .lenS (.t 54)⟩,⟨(some 56), (some (52, false)), .bin .gtr 3 (.t 55) (.c (.int .i64 6))⟩,⟨(some 57), none, .pick (.t 52) (.c (.bool true)) (.t 56)⟩,⟨(some 58), none, .mov (.t 57)⟩,⟨(some 59), (some (58, false)), .fadr 2 (.t 6)⟩,⟨(some 60), (some (58, false)), .ld (.t 59)⟩,⟨(some 61), (some (58, false)), .mov (.t 60)⟩,⟨(some 62), (some (61, true)), .fadr 1 (.t 3)⟩,⟨(some 63), (some (61, true)), .ld (.t 62)⟩,⟨(some 64), (some (61, true)), .bin .eql 3 (.t 63) (.c (.int .i64 1))⟩,⟨(some 65), (some (58, false)), .pick (.t 61) (.t 64) (.c (.bool false))⟩,⟨(some 66), none, .pick (.t 58) (.c (.bool true)) (.t 65)⟩,⟨(some 67), none, .mov (.t 66)⟩,⟨(some 68), (some (67, false)), .mov (.t 5)⟩,⟨(some 69), (some (67, false)), .bin .gtr 3 (.t 68) (.c (.int .i64 0))⟩,⟨(some 70), (some (67, false)), .mov (.t 69)⟩,⟨(some 71), (some (70, true)), .fadr 0 (.t 6)⟩,⟨(some 72), (some (70, true)), .ld (.t 71)⟩,⟨(some 73), (some (70, true)), .fadr 4 (.t 3)⟩,⟨(some 74), (some (70, true)), .ld (.t 73)⟩,⟨(some 75), (some (70, true)), .mov (.t 5)⟩,⟨(some 76), (some (70, true)), .bin .sub 3 (.t 75) (.c (.int .i64 1))⟩,⟨(some 77), (some (70, true)), .iadrS 3 (.t 74) (.t 76)⟩,⟨(some 78), (some (70, true)), .fadr 0 (.t 77)⟩,⟨(some 79), (some (70, true)), .ld (.t 78)⟩,⟨(some 80), (some (70, true)), .bin .leq 9 (.t 72) (.t 79)⟩,⟨(some 81), (some (67, false)), .pick (.t 70) (.t 80) (.c (.bool false))⟩,⟨(some 82), none, .pick (.t 67) (.c (.bool true)) (.t 81)⟩]
@[simp] def c_ref16_infoMay_r7 : List Ir := [⟨(some 4), none, .mov (.c (.bool false))⟩]
@[simp] def c_ref16_infoMay_r8 : List Ir := [⟨(some 41), none, .mov (.t 5)⟩,⟨(some 42), none, .bin .add 3 (.t 41) (.c (.int .i64 1))⟩,⟨(some 5), none, .mov (.t 42)⟩]
def c_ref16_infoMay_l9 : IC := (.seq (.seq (.reg c_ref16_infoMay_r4) (.cond (.t 40) .skip (.exit 0))) (.seq (.block 1 (.seq (.reg c_ref16_infoMay_r5) (.seq (.regd c_ref16_infoMay_r6 []) (.cond (.t 82) (.seq (.reg c_ref16_infoMay_r7) .ret) .skip)))) (.reg c_ref16_infoMay_r8)))
@[simp] def c_ref16_infoMay_r10 : List Ir := [⟨(some 83), none, .fadr 2 (.t 3)⟩,⟨(some 84), none, .ld (.t 83)⟩,⟨(some 7), none, .mov (.t 84)⟩]
@[simp] def c_ref16_infoMay_r11 : List Ir := [⟨(some 8), none, .mov (.c (.int .i64 0))⟩]
@[simp] def c_ref16_infoMay_r12 : List Ir := [⟨(some 85), none, .mov (.t 7)⟩,⟨(some 86), none, .bin .neq 9 (.t 85) (.c (.string ⟨#[]⟩))⟩]
@[simp] def c_ref16_infoMay_r13 : List Ir := [⟨(some 89), none, .mov (.t 0)⟩,⟨(some 90), none, .mov (.t 7)⟩,⟨(some 91), none, .call f_ref16_At [(.t 89), (.t 90)]⟩,⟨(some 9), none, .mov (.t 91)⟩]
@[simp] def c_ref16_infoMay_r14 : List Ir := [⟨(some 92), none, .mov (.t 9)⟩,⟨(some 93), none, .bin .lss 3 (.t 92) (.c (.int .i64 0))⟩,⟨(some 94), none, .mov (.t 93)⟩,⟨(some 95), (some (94, false)), .mov (.t 0)⟩,⟨(some 96), (some (94, false)), .mov (.t 9)⟩,⟨(some 97), (some (94, false)), .iadrS 5 (.t 95) (.t 96)⟩,⟨(some 98), (some (94, false)), .fadr 1 (.t 97)⟩,⟨(some 99), (some (94, false)), .ld (.t 98)⟩,⟨(some 100), (some (94, false)), .bin .neq 3 (.t 99) (.c (.int .i64 2))⟩,⟨(some 101), none, .pick (.t 94) (.c (.bool true)) (.t 100)⟩,⟨(some 102), none, .mov (.t 101)⟩,⟨(some 103), (some (102, false)), .mov (.t 8)⟩,⟨(some 104), (some (102, false)), .bin .gtr 3 (.t 103) (.c (.int .i64 6))⟩,⟨(some 105), none, .pick (.t 102) (.c (.bool true)) (.t 104)⟩]
@[simp] def c_ref16_infoMay_r15 : List Ir := [⟨(some 4), none, .mov (.c (.bool false))⟩]
@[simp] def c_ref16_infoMay_r16 : List Ir := [⟨(some 106), none, .mov (.t 0)⟩,⟨(some 107), none, .mov (.t 9)⟩,⟨(some 108), none, .iadrS 5 (.t 106) (.t 107)⟩,⟨(some 109), none, .fadr 2 (.t 108)⟩,⟨(some 110), none, .ld (.t 109)⟩,⟨(some 7), none, .mov (.t 110)⟩]
@[simp] def c_ref16_infoMay_r17 : List Ir := [⟨(some 87), none, .mov (.t 8)⟩,⟨(some 88), none, .bin .add 3 (.t 87) (.c (.int .i64 1))⟩,⟨(some 8), none, .mov (.t 88)⟩]
def c_ref16_infoMay_l18 : IC := (.seq (.seq (.reg c_ref16_infoMay_r12) (.cond (.t 86) .skip (.exit 2))) (.seq (.block 3 (.seq (.reg c_ref16_infoMay_r13) (.seq (.seq (.reg c_ref16_infoMay_r14) (.cond (.t 105) (.seq (.reg c_ref16_infoMay_r15) .ret) .skip)) (.reg c_ref16_infoMay_r16)))) (.reg c_ref16_infoMay_r17)))
@[simp] def c_ref16_infoMay_r19 : List Ir := [⟨(some 4), none, .mov (.c (.bool true))⟩]
@[simp] def c_ref16_infoMay : IFn := ⟨(.seq (.reg c_ref16_infoMay_r0) (.seq (.seq (.reg c_ref16_infoMay_r1) (.cond (.t 35) (.seq (.reg c_ref16_infoMay_r2) .ret) .skip)) (.seq (.seq (.reg c_ref16_infoMay_r3) (.block 0 (.loop c_ref16_infoMay_l9))) (.seq (.reg c_ref16_infoMay_r10) (.seq (.seq (.reg c_ref16_infoMay_r11) (.block 2 (.loop c_ref16_infoMay_l18))) (.seq (.reg c_ref16_infoMay_r19) .ret)))))), 111, [.tmp 4]⟩

theorem fc_ref16_infoMay : fnAt Try.prog f_ref16_infoMay = some c_ref16_infoMay := by kernel_rfl
@[simp] def c_law0_SpoilFiles_r0 : List Ir := [⟨(some 2), none, .mov (.c (.int .i64 0))⟩]
@[simp] def c_law0_SpoilFiles_r1 : List Ir := [⟨(some 3), none, .mov (.t 2)⟩,⟨(some 4), none, .mov (.t 0)⟩,⟨(some 5), none, .lenV (.t 4)⟩,⟨(some 6), none, .bin .lss 3 (.t 3) (.t 5)⟩]
@[simp] def c_law0_SpoilFiles_r2 : List Ir := [⟨(some 9), none, .mov (.t 0)⟩,⟨(some 10), none, .mov (.t 2)⟩,⟨(some 11), none, .iadrS 3 (.t 9) (.t 10)⟩,⟨(some 12), none, .fadr 0 (.t 11)⟩,⟨none, none, .st 1 (.t 12) (.c (.string ⟨#[115, 112, 111, 105, 108, 116]⟩))⟩]
@[simp] def c_law0_SpoilFiles_r3 : List Ir := [⟨(some 7), none, .mov (.t 2)⟩,⟨(some 8), none, .bin .add 3 (.t 7) (.c (.int .i64 1))⟩,⟨(some 2), none, .mov (.t 8)⟩]
def c_law0_SpoilFiles_l4 : IC := (.seq (.seq (.reg c_law0_SpoilFiles_r1) (.cond (.t 6) .skip (.exit 0))) (.seq (.block 1 (.reg c_law0_SpoilFiles_r2)) (.reg c_law0_SpoilFiles_r3)))
@[simp] def c_law0_SpoilFiles : IFn := ⟨(.seq (.reg c_law0_SpoilFiles_r0) (.block 0 (.loop c_law0_SpoilFiles_l4))), 13, []⟩

theorem fc_law0_SpoilFiles : fnAt Try.prog f_law0_SpoilFiles = some c_law0_SpoilFiles := by kernel_rfl
@[simp] def c_law0_SameFiles_r0 : List Ir := [⟨(some 4), none, .mov (.c (.bool false))⟩]
@[simp] def c_law0_SameFiles_r1 : List Ir := [⟨(some 6), none, .mov (.t 0)⟩,⟨(some 7), none, .lenV (.t 6)⟩,⟨(some 8), none, .mov (.t 1)⟩,⟨(some 9), none, .lenV (.t 8)⟩,⟨(some 10), none, .bin .neq 3 (.t 7) (.t 9)⟩]
@[simp] def c_law0_SameFiles_r2 : List Ir := [⟨(some 4), none, .mov (.c (.bool false))⟩]
@[simp] def c_law0_SameFiles_r3 : List Ir := [⟨(some 5), none, .mov (.c (.int .i64 0))⟩]
@[simp] def c_law0_SameFiles_r4 : List Ir := [⟨(some 11), none, .mov (.t 5)⟩,⟨(some 12), none, .mov (.t 0)⟩,⟨(some 13), none, .lenV (.t 12)⟩,⟨(some 14), none, .bin .lss 3 (.t 11) (.t 13)⟩]
@[simp] def c_law0_SameFiles_r5 : List Ir := [⟨(some 17), none, .mov (.t 0)⟩,⟨(some 18), none, .mov (.t 5)⟩,⟨(some 19), none, .iadrS 3 (.t 17) (.t 18)⟩,⟨(some 20), none, .ldn 3 (.t 19)⟩,⟨(some 21), none, .mov (.t 1)⟩,⟨(some 22), none, .mov (.t 5)⟩,⟨(some 23), none, .iadrS 3 (.t 21) (.t 22)⟩,⟨(some 24), none, .ldn 3 (.t 23)⟩,⟨(some 25), none, .eqa true [.txt, .txt, .flag] (.t 20) (.t 24)⟩]
@[simp] def c_law0_SameFiles_r6 : List Ir := [⟨(some 4), none, .mov (.c (.bool false))⟩]
@[simp] def c_law0_SameFiles_r7 : List Ir := [⟨(some 15), none, .mov (.t 5)⟩,⟨(some 16), none, .bin .add 3 (.t 15) (.c (.int .i64 1))⟩,⟨(some 5), none, .mov (.t 16)⟩]
def c_law0_SameFiles_l8 : IC := (.seq (.seq (.reg c_law0_SameFiles_r4) (.cond (.t 14) .skip (.exit 0))) (.seq (.block 1 (.seq (.regd c_law0_SameFiles_r5 []) (.cond (.t 25) (.seq (.reg c_law0_SameFiles_r6) .ret) .skip))) (.reg c_law0_SameFiles_r7)))
@[simp] def c_law0_SameFiles_r9 : List Ir := [⟨(some 4), none, .mov (.c (.bool true))⟩]
@[simp] def c_law0_SameFiles : IFn := ⟨(.seq (.reg c_law0_SameFiles_r0) (.seq (.seq (.reg c_law0_SameFiles_r1) (.cond (.t 10) (.seq (.reg c_law0_SameFiles_r2) .ret) .skip)) (.seq (.seq (.reg c_law0_SameFiles_r3) (.block 0 (.loop c_law0_SameFiles_l8))) (.seq (.reg c_law0_SameFiles_r9) .ret)))), 26, [.tmp 4]⟩

theorem fc_law0_SameFiles : fnAt Try.prog f_law0_SameFiles = some c_law0_SameFiles := by kernel_rfl
@[simp] def c_forest_Copy_r0 : List Ir := [⟨(some 2), none, .mov (.c (.slice none 0 0))⟩]
@[simp] def c_forest_Copy_r1 : List Ir := [⟨(some 5), none, .mov (.t 0)⟩,⟨(some 6), none, .call f_slices_Clone_Info [(.t 5)]⟩,⟨(some 3), none, .mov (.t 6)⟩]
@[simp] def c_forest_Copy_r2 : List Ir := [⟨(some 7), none, .mov (.t 3)⟩,⟨(some 8), none, .lenV (.t 7)⟩,⟨(some 9), none, .mov (.c (.int .i64 0))⟩]
@[simp] def c_forest_Copy_r3 : List Ir := [⟨(some 10), none, .bin .lss 3 (.t 9) (.t 8)⟩]
@[simp] def c_forest_Copy_r4 : List Ir := [⟨(some 11), none, .mov (.t 9)⟩,⟨(some 4), none, .mov (.t 11)⟩]
@[simp] def c_forest_Copy_r5 : List Ir := [⟨(some 12), none, .mov (.t 3)⟩,⟨(some 13), none, .mov (.t 4)⟩,⟨(some 14), none, .mov (.t 3)⟩,⟨(some 15), none, .mov (.t 4)⟩,⟨(some 16), none, .iadrS 5 (.t 14) (.t 15)⟩,⟨(some 17), none, .fadr 4 (.t 16)⟩,⟨(some 18), none, .ld (.t 17)⟩,⟨(some 19), none, .call f_slices_Clone_File [(.t 18)]⟩,⟨(some 20), none, .iadrS 5 (.t 12) (.t 13)⟩,⟨(some 21), none, .fadr 4 (.t 20)⟩,⟨none, none, .st 1 (.t 21) (.t 19)⟩]
@[simp] def c_forest_Copy_r6 : List Ir := [⟨(some 22), none, .bin .add 3 (.t 9) (.c (.int .i64 1))⟩,⟨(some 9), none, .mov (.t 22)⟩]
def c_forest_Copy_l7 : IC := (.seq (.reg c_forest_Copy_r3) (.seq (.cond (.t 10) .skip (.exit 0)) (.seq (.block 1 (.seq (.reg c_forest_Copy_r4) (.reg c_forest_Copy_r5))) (.reg c_forest_Copy_r6))))
@[simp] def c_forest_Copy_r8 : List Ir := [⟨(some 23), none, .mov (.t 3)⟩,⟨(some 2), none, .mov (.t 23)⟩]
@[simp] def c_forest_Copy : IFn := ⟨(.seq (.reg c_forest_Copy_r0) (.seq (.reg c_forest_Copy_r1) (.seq (.seq (.reg c_forest_Copy_r2) (.block 0 (.loop c_forest_Copy_l7))) (.seq (.reg c_forest_Copy_r8) .ret)))), 24, [.tmp 2]⟩

theorem fc_forest_Copy : fnAt Try.prog f_forest_Copy = some c_forest_Copy := by kernel_rfl
@[simp] def c_slices_BinarySearchFunc_Info_string_r0 : List Ir := [⟨(some 6), none, .mov (.c (.int .i64 0))⟩,⟨(some 7), none, .mov (.c (.bool false))⟩]
@[simp] def c_slices_BinarySearchFunc_Info_string_r1 : List Ir := [⟨(some 12), none, .mov (.t 0)⟩,⟨(some 13), none, .lenV (.t 12)⟩,⟨(some 8), none, .mov (.t 13)⟩]
@[simp] def c_slices_BinarySearchFunc_Info_string_r2 : List Ir := [⟨(some 14), none, .mov (.t 8)⟩,⟨(some 9), none, .mov (.c (.int .i64 0))⟩,⟨(some 10), none, .mov (.t 14)⟩]
@[simp] def c_slices_BinarySearchFunc_Info_string_r3 : List Ir := [⟨(some 15), none, .mov (.t 9)⟩,⟨(some 16), none, .mov (.t 10)⟩,⟨(some 17), none, .bin .lss 3 (.t 15) (.t 16)⟩]
@[simp] def c_slices_BinarySearchFunc_Info_string_r4 : List Ir := [⟨(some 18), none, .mov (.t 9)⟩,⟨(some 19), none, .mov (.t 10)⟩,⟨(some 20), none, .bin .add 3 (.t 18) (.t 19)⟩,⟨(some 21), none, .ii .u64 (.t 20)⟩,⟨(some 22), none, .bin .shr 49 (.t 21) (.c (.int .u64 1))⟩,⟨(some 23), none, .ii .i64 (.t 22)⟩,⟨(some 11), none, .mov (.t 23)⟩]
@[simp] def c_slices_BinarySearchFunc_Info_string_r5 : List Ir := [⟨(some 24), none, .mov (.t 2)⟩,⟨(some 25), none, .mov (.t 0)⟩,⟨(some 26), none, .mov (.t 11)⟩,⟨(some 27), none, .iadrS 5 (.t 25) (.t 26)⟩,⟨(some 28), none, .ldn 5 (.t 27)⟩,⟨(some 29), none, .mov (.t 1)⟩,⟨(some 30), none, .callV (.t 24) [(.t 28), (.t 29)]⟩,⟨(some 31), none, .bin .lss 3 (.t 30) (.c (.int .i64 0))⟩]
@[simp] def c_slices_BinarySearchFunc_Info_string_r6 : List Ir := [⟨(some 32), none, .mov (.t 11)⟩,⟨(some 33), none, .bin .add 3 (.t 32) (.c (.int .i64 1))⟩,⟨(some 9), none, .mov (.t 33)⟩]
@[simp] def c_slices_BinarySearchFunc_Info_string_r7 : List Ir := [⟨(some 34), none, .mov (.t 11)⟩,⟨(some 10), none, .mov (.t 34)⟩]
def c_slices_BinarySearchFunc_Info_string_l8 : IC := (.seq (.seq (.reg c_slices_BinarySearchFunc_Info_string_r3) (.cond (.t 17) .skip (.exit 0))) (.block 1 (.seq (.reg c_slices_BinarySearchFunc_Info_string_r4) (.seq (.reg c_slices_BinarySearchFunc_Info_string_r5) (.cond (.t 31) (.reg c_slices_BinarySearchFunc_Info_string_r6) (.reg c_slices_BinarySearchFunc_Info_string_r7))))))
@[simp] def c_slices_BinarySearchFunc_Info_string_r9 : List Ir := [⟨(some 35), none, .mov (.t 9)⟩,⟨(some 36), none, .mov (.t 9)⟩,⟨(some 37), none, .mov (.t 8)⟩,⟨(some 38), none, .bin .lss 3 (.t 36) (.t 37)⟩,⟨(some 39), none, .mov (.t 38)⟩,⟨(some 40), (some (39, true)), .mov (.t 2)⟩,⟨(some 41), (some (39, true)), .mov (.t 0)⟩,⟨(some 42), (some (39, true)), .mov (.t 9)⟩,⟨(some 43), (some (39, true)), .iadrS 5 (.t 41) (.t 42)⟩,⟨(some 44), (some (39, true)), .ldn 5 (.t 43)⟩,⟨(some 45), (some (39, true)), .mov (.t 1)⟩,⟨(some 46), (some (39, true)), .callV (.t 40) [(.t 44), (.t 45)]⟩,⟨(some 47), (some (39, true)), .bin .eql 3 (.t 46) (.c (.int .i64 0))⟩,⟨(some 48), none, .pick (.t 39) (.t 47) (.c (.bool false))⟩,⟨(some 6), none, .mov (.t 35)⟩,⟨(some 7), none, .mov (.t 48)⟩]
@[simp] def c_slices_BinarySearchFunc_Info_string : IFn := ⟨(.seq (.reg c_slices_BinarySearchFunc_Info_string_r0) (.seq (.reg c_slices_BinarySearchFunc_Info_string_r1) (.seq (.reg c_slices_BinarySearchFunc_Info_string_r2) (.seq (.block 0 (.loop c_slices_BinarySearchFunc_Info_string_l8)) (.seq (.reg c_slices_BinarySearchFunc_Info_string_r9) .ret))))), 49, [.tmp 6, .tmp 7]⟩

theorem fc_slices_BinarySearchFunc_Info_string : fnAt Try.prog f_slices_BinarySearchFunc_Info_string = some c_slices_BinarySearchFunc_Info_string := by kernel_rfl
@[simp] def c_forest_At_1_r0 : List Ir := [⟨(some 2), none, .box 5 (.t 0)⟩,⟨(some 4), none, .mov (.c (.int .i64 0))⟩]
@[simp] def c_forest_At_1_r1 : List Ir := [⟨(some 5), none, .fadr 0 (.t 2)⟩,⟨(some 6), none, .ld (.t 5)⟩,⟨(some 7), none, .mov (.t 1)⟩,⟨(some 8), none, .call f_strings_Compare [(.t 6), (.t 7)]⟩,⟨(some 4), none, .mov (.t 8)⟩]
@[simp] def c_forest_At_1 : IFn := ⟨(.seq (.reg c_forest_At_1_r0) (.seq (.reg c_forest_At_1_r1) .ret)), 9, [.tmp 4]⟩

theorem fc_forest_At_1 : fnAt Try.prog f_forest_At_1 = some c_forest_At_1 := by kernel_rfl
@[simp] def c_strings_Compare_r0 : List Ir := [⟨(some 4), none, .mov (.c (.int .i64 0))⟩]
@[simp] def c_strings_Compare_r1 : List Ir := [⟨(some 5), none, .mov (.t 0)⟩,⟨(some 6), none, .mov (.t 1)⟩,⟨(some 7), none, .call f_internal_bytealg_CompareString [(.t 5), (.t 6)]⟩,⟨(some 4), none, .mov (.t 7)⟩]
@[simp] def c_strings_Compare : IFn := ⟨(.seq (.reg c_strings_Compare_r0) (.seq (.reg c_strings_Compare_r1) .ret)), 8, [.tmp 4]⟩

theorem fc_strings_Compare : fnAt Try.prog f_strings_Compare = some c_strings_Compare := by kernel_rfl
@[simp] def c_slices_rotateRight_api_Info_r0 : List Ir := [⟨(some 4), none, .mov (.t 0)⟩,⟨(some 5), none, .mov (.t 0)⟩,⟨(some 6), none, .lenV (.t 5)⟩,⟨(some 7), none, .mov (.t 1)⟩,⟨(some 8), none, .bin .sub 3 (.t 6) (.t 7)⟩,⟨(some 9), none, .call f_slices_rotateLeft_api_Info [(.t 4), (.t 8)]⟩]
@[simp] def c_slices_rotateRight_api_Info : IFn := ⟨(.reg c_slices_rotateRight_api_Info_r0), 10, []⟩

theorem fc_slices_rotateRight_api_Info : fnAt Try.prog f_slices_rotateRight_api_Info = some c_slices_rotateRight_api_Info := by kernel_rfl
end Go.AM
