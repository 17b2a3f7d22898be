import Derived.Test.YtbgidagbogpfkaaR7CodeA
namespace Go.AM
open Go.Proofs
set_option maxRecDepth 1000000
@[simp] def c_ref16_word_r0 : List Ir := [⟨(some 4), none, .mov (.c (.bool false))⟩]
@[simp] def c_ref16_word_r1 : List Ir := [⟨(some 5), none, .mov (.c (.int .i64 0))⟩]
@[simp] def c_ref16_word_r2 : List Ir := [⟨(some 6), none, .mov (.t 5)⟩,⟨(some 7), none, .mov (.t 0)⟩,⟨(some 8), none, .lenS (.t 7)⟩,⟨(some 9), none, .bin .lss 3 (.t 6) (.t 8)⟩]
@[simp] def c_ref16_word_r3 : List Ir := [⟨(some 12), none, .mov (.t 0)⟩,⟨(some 13), none, .mov (.t 5)⟩,⟨(some 14), none, .idxS (.t 12) (.t 13)⟩,⟨(some 15), none, .bin .geq 5 (.t 14) (.c (.int .u8 97))⟩,⟨(some 16), none, .mov (.t 15)⟩,⟨(some 17), (some (16, true)), .mov (.t 0)⟩,⟨(some 18), (some (16, true)), .mov (.t 5)⟩,⟨(some 19), (some (16, true)), .idxS (.t 17) (.t 18)⟩,⟨(some 20), (some (16, true)), .bin .leq 5 (.t 19) (.c (.int .u8 122))⟩,⟨(some 21), none, .pick (.t 16) (.t 20) (.c (.bool false))⟩,⟨(some 22), none, .mov (.t 21)⟩,⟨(some 23), (some (22, false)), .mov (.t 0)⟩,⟨(some 24), (some (22, false)), .mov (.t 5)⟩,⟨(some 25), (some (22, false)), .idxS (.t 23) (.t 24)⟩,⟨(some 26), (some (22, false)), .bin .geq 5 (.t 25) (.c (.int .u8 48))⟩,⟨(some 27), (some (22, false)), .mov (.t 26)⟩,⟨(some 28), (some (27, true)), .mov (.t 0)⟩,⟨(some 29), (some (27, true)), .mov (.t 5)⟩,⟨(some 30), (some (27, true)), .idxS (.t 28) (.t 29)⟩,⟨(some 31), (some (27, true)), .bin .leq 5 (.t 30) (.c (.int .u8 57))⟩,⟨(some 32), (some (22, false)), .pick (.t 27) (.t 31) (.c (.bool false))⟩,⟨(some 33), none, .pick (.t 22) (.c (.bool true)) (.t 32)⟩,⟨(some 34), none, .un .not (.t 33)⟩]
@[simp] def c_ref16_word_r4 : List Ir := [⟨(some 4), none, .mov (.c (.bool false))⟩]
@[simp] def c_ref16_word_r5 : List Ir := [⟨(some 10), none, .mov (.t 5)⟩,⟨(some 11), none, .bin .add 3 (.t 10) (.c (.int .i64 1))⟩,⟨(some 5), none, .mov (.t 11)⟩]
def c_ref16_word_l6 : IC := (.seq (.seq (.reg c_ref16_word_r2) (.cond (.t 9) .skip (.exit 0))) (.seq (.block 1 (.seq (.reg c_ref16_word_r3) (.cond (.t 34) (.seq (.reg c_ref16_word_r4) .ret) .skip))) (.reg c_ref16_word_r5)))
@[simp] def c_ref16_word_r7 : List Ir := [⟨(some 35), none, .mov (.t 0)⟩,⟨(some 36), none, .lenS (.t 35)⟩,⟨(some 37), none, .bin .geq 3 (.t 36) (.c (.int .i64 1))⟩,⟨(some 38), none, .mov (.t 37)⟩,⟨(some 39), (some (38, true)), .mov (.t 0)⟩,⟨(some 40), (some (38, true)), .lenS (.t 39)⟩,⟨(some 41), (some (38, true)), .mov (.t 1)⟩,⟨(some 42), (some (38, true)), .bin .leq 3 (.t 40) (.t 41)⟩,⟨(some 43), none, .pick (.t 38) (.t 42) (.c (.bool false))⟩,⟨(some 4), none, .mov (.t 43)⟩]
@[simp] def c_ref16_word : IFn := ⟨(.seq (.reg c_ref16_word_r0) (.seq (.seq (.reg c_ref16_word_r1) (.block 0 (.loop c_ref16_word_l6))) (.seq (.reg c_ref16_word_r7) .ret))), 44, [.tmp 4]⟩

theorem fc_ref16_word : fnAt Try.prog f_ref16_word = some c_ref16_word := by kernel_rfl
@[simp] def c_slices_IndexFunc_Info_r0 : List Ir := [⟨(some 4), none, .mov (.c (.int .i64 0))⟩]
@[simp] def c_slices_IndexFunc_Info_r1 : List Ir := [⟨(some 6), none, .mov (.t 0)⟩,⟨(some 7), none, .lenV (.t 6)⟩,⟨(some 8), none, .mov (.c (.int .i64 0))⟩]
@[simp] def c_slices_IndexFunc_Info_r2 : List Ir := [⟨(some 9), none, .bin .lss 3 (.t 8) (.t 7)⟩]
@[simp] def c_slices_IndexFunc_Info_r3 : List Ir := [⟨(some 10), none, .mov (.t 8)⟩,⟨(some 5), none, .mov (.t 10)⟩]
@[simp] def c_slices_IndexFunc_Info_r4 : List Ir := [⟨(some 11), none, .mov (.t 1)⟩,⟨(some 12), none, .mov (.t 0)⟩,⟨(some 13), none, .mov (.t 5)⟩,⟨(some 14), none, .iadrS 5 (.t 12) (.t 13)⟩,⟨(some 15), none, .ldn 5 (.t 14)⟩,⟨(some 16), none, .callV (.t 11) [(.t 15)]⟩]
@[simp] def c_slices_IndexFunc_Info_r5 : List Ir := [⟨(some 17), none, .mov (.t 5)⟩,⟨(some 4), none, .mov (.t 17)⟩]
@[simp] def c_slices_IndexFunc_Info_r6 : List Ir := [⟨(some 18), none, .bin .add 3 (.t 8) (.c (.int .i64 1))⟩,⟨(some 8), none, .mov (.t 18)⟩]
def c_slices_IndexFunc_Info_l7 : IC := (.seq (.reg c_slices_IndexFunc_Info_r2) (.seq (.cond (.t 9) .skip (.exit 0)) (.seq (.block 1 (.seq (.reg c_slices_IndexFunc_Info_r3) (.seq (.reg c_slices_IndexFunc_Info_r4) (.cond (.t 16) (.seq (.reg c_slices_IndexFunc_Info_r5) .ret) .skip)))) (.reg c_slices_IndexFunc_Info_r6))))
@[simp] def c_slices_IndexFunc_Info_r8 : List Ir := [⟨(some 4), none, .mov (.c (.int .i64 (-1)))⟩]
@[simp] def c_slices_IndexFunc_Info : IFn := ⟨(.seq (.reg c_slices_IndexFunc_Info_r0) (.seq (.seq (.reg c_slices_IndexFunc_Info_r1) (.block 0 (.loop c_slices_IndexFunc_Info_l7))) (.seq (.reg c_slices_IndexFunc_Info_r8) .ret))), 19, [.tmp 4]⟩

theorem fc_slices_IndexFunc_Info : fnAt Try.prog f_slices_IndexFunc_Info = some c_slices_IndexFunc_Info := by kernel_rfl
@[simp] def c_key_IsPath_r0 : List Ir := [⟨(some 2), none, .mov (.c (.bool false))⟩]
@[simp] def c_key_IsPath_r1 : List Ir := [⟨(some 3), none, .mov (.t 0)⟩,⟨(some 4), none, .call f_key_word [(.t 3), (.c (.int .i64 3))]⟩,⟨(some 2), none, .mov (.t 4)⟩]
@[simp] def c_key_IsPath : IFn := ⟨(.seq (.reg c_key_IsPath_r0) (.seq (.reg c_key_IsPath_r1) .ret)), 5, [.tmp 2]⟩

theorem fc_key_IsPath : fnAt Try.prog f_key_IsPath = some c_key_IsPath := by kernel_rfl
@[simp] def c_slices_BinarySearchFunc_File_string_r0 : List Ir := [⟨(some 6), none, .mov (.c (.int .i64 0))⟩,⟨(some 7), none, .mov (.c (.bool false))⟩]
@[simp] def c_slices_BinarySearchFunc_File_string_r1 : List Ir := [⟨(some 12), none, .mov (.t 0)⟩,⟨(some 13), none, .lenV (.t 12)⟩,⟨(some 8), none, .mov (.t 13)⟩]
@[simp] def c_slices_BinarySearchFunc_File_string_r2 : List Ir := [⟨(some 14), none, .mov (.t 8)⟩,⟨(some 9), none, .mov (.c (.int .i64 0))⟩,⟨(some 10), none, .mov (.t 14)⟩]
@[simp] def c_slices_BinarySearchFunc_File_string_r3 : List Ir := [⟨(some 15), none, .mov (.t 9)⟩,⟨(some 16), none, .mov (.t 10)⟩,⟨(some 17), none, .bin .lss 3 (.t 15) (.t 16)⟩]
@[simp] def c_slices_BinarySearchFunc_File_string_r4 : List Ir := [⟨(some 18), none, .mov (.t 9)⟩,⟨(some 19), none, .mov (.t 10)⟩,⟨(some 20), none, .bin .add 3 (.t 18) (.t 19)⟩,⟨(some 21), none, .ii .u64 (.t 20)⟩,⟨(some 22), none, .bin .shr 49 (.t 21) (.c (.int .u64 1))⟩,⟨(some 23), none, .ii .i64 (.t 22)⟩,⟨(some 11), none, .mov (.t 23)⟩]
@[simp] def c_slices_BinarySearchFunc_File_string_r5 : List Ir := [⟨(some 24), none, .mov (.t 2)⟩,⟨(some 25), none, .mov (.t 0)⟩,⟨(some 26), none, .mov (.t 11)⟩,⟨(some 27), none, .iadrS 3 (.t 25) (.t 26)⟩,⟨(some 28), none, .ldn 3 (.t 27)⟩,⟨(some 29), none, .mov (.t 1)⟩,⟨(some 30), none, .callV (.t 24) [(.t 28), (.t 29)]⟩,⟨(some 31), none, .bin .lss 3 (.t 30) (.c (.int .i64 0))⟩]
@[simp] def c_slices_BinarySearchFunc_File_string_r6 : List Ir := [⟨(some 32), none, .mov (.t 11)⟩,⟨(some 33), none, .bin .add 3 (.t 32) (.c (.int .i64 1))⟩,⟨(some 9), none, .mov (.t 33)⟩]
@[simp] def c_slices_BinarySearchFunc_File_string_r7 : List Ir := [⟨(some 34), none, .mov (.t 11)⟩,⟨(some 10), none, .mov (.t 34)⟩]
def c_slices_BinarySearchFunc_File_string_l8 : IC := (.seq (.seq (.reg c_slices_BinarySearchFunc_File_string_r3) (.cond (.t 17) .skip (.exit 0))) (.block 1 (.seq (.reg c_slices_BinarySearchFunc_File_string_r4) (.seq (.reg c_slices_BinarySearchFunc_File_string_r5) (.cond (.t 31) (.reg c_slices_BinarySearchFunc_File_string_r6) (.reg c_slices_BinarySearchFunc_File_string_r7))))))
@[simp] def c_slices_BinarySearchFunc_File_string_r9 : List Ir := [⟨(some 35), none, .mov (.t 9)⟩,⟨(some 36), none, .mov (.t 9)⟩,⟨(some 37), none, .mov (.t 8)⟩,⟨(some 38), none, .bin .lss 3 (.t 36) (.t 37)⟩,⟨(some 39), none, .mov (.t 38)⟩,⟨(some 40), (some (39, true)), .mov (.t 2)⟩,⟨(some 41), (some (39, true)), .mov (.t 0)⟩,⟨(some 42), (some (39, true)), .mov (.t 9)⟩,⟨(some 43), (some (39, true)), .iadrS 3 (.t 41) (.t 42)⟩,⟨(some 44), (some (39, true)), .ldn 3 (.t 43)⟩,⟨(some 45), (some (39, true)), .mov (.t 1)⟩,⟨(some 46), (some (39, true)), .callV (.t 40) [(.t 44), (.t 45)]⟩,⟨(some 47), (some (39, true)), .bin .eql 3 (.t 46) (.c (.int .i64 0))⟩,⟨(some 48), none, .pick (.t 39) (.t 47) (.c (.bool false))⟩,⟨(some 6), none, .mov (.t 35)⟩,⟨(some 7), none, .mov (.t 48)⟩]
@[simp] def c_slices_BinarySearchFunc_File_string : IFn := ⟨(.seq (.reg c_slices_BinarySearchFunc_File_string_r0) (.seq (.reg c_slices_BinarySearchFunc_File_string_r1) (.seq (.reg c_slices_BinarySearchFunc_File_string_r2) (.seq (.block 0 (.loop c_slices_BinarySearchFunc_File_string_l8)) (.seq (.reg c_slices_BinarySearchFunc_File_string_r9) .ret))))), 49, [.tmp 6, .tmp 7]⟩

theorem fc_slices_BinarySearchFunc_File_string : fnAt Try.prog f_slices_BinarySearchFunc_File_string = some c_slices_BinarySearchFunc_File_string := by kernel_rfl
@[simp] def c_forest_FileAt_1_r0 : List Ir := [⟨(some 2), none, .box 3 (.t 0)⟩,⟨(some 4), none, .mov (.c (.int .i64 0))⟩]
@[simp] def c_forest_FileAt_1_r1 : List Ir := [⟨(some 5), none, .fadr 0 (.t 2)⟩,⟨(some 6), none, .ld (.t 5)⟩,⟨(some 7), none, .mov (.t 1)⟩,⟨(some 8), none, .call f_strings_Compare [(.t 6), (.t 7)]⟩,⟨(some 4), none, .mov (.t 8)⟩]
@[simp] def c_forest_FileAt_1 : IFn := ⟨(.seq (.reg c_forest_FileAt_1_r0) (.seq (.reg c_forest_FileAt_1_r1) .ret)), 9, [.tmp 4]⟩

theorem fc_forest_FileAt_1 : fnAt Try.prog f_forest_FileAt_1 = some c_forest_FileAt_1 := by kernel_rfl
@[simp] def c_slices_rotateRight_api_File_r0 : List Ir := [⟨(some 4), none, .mov (.t 0)⟩,⟨(some 5), none, .mov (.t 0)⟩,⟨(some 6), none, .lenV (.t 5)⟩,⟨(some 7), none, .mov (.t 1)⟩,⟨(some 8), none, .bin .sub 3 (.t 6) (.t 7)⟩,⟨(some 9), none, .call f_slices_rotateLeft_api_File [(.t 4), (.t 8)]⟩]
@[simp] def c_slices_rotateRight_api_File : IFn := ⟨(.reg c_slices_rotateRight_api_File_r0), 10, []⟩

theorem fc_slices_rotateRight_api_File : fnAt Try.prog f_slices_rotateRight_api_File = some c_slices_rotateRight_api_File := by kernel_rfl
@[simp] def c_key_word_r0 : List Ir := [⟨(some 4), none, .mov (.c (.bool false))⟩]
@[simp] def c_key_word_r1 : List Ir := [⟨(some 7), none, .mov (.t 0)⟩,⟨(some 8), none, .lenS (.t 7)⟩,⟨(some 9), none, .mov (.c (.int .i64 0))⟩]
@[simp] def c_key_word_r2 : List Ir := [⟨(some 10), none, .bin .lss 3 (.t 9) (.t 8)⟩]
@[simp] def c_key_word_r3 : List Ir := [⟨(some 11), none, .mov (.t 9)⟩,⟨(some 5), none, .mov (.t 11)⟩]
@[simp] def c_key_word_r4 : List Ir := [⟨(some 12), none, .mov (.t 0)⟩,⟨(some 13), none, .mov (.t 5)⟩,⟨(some 14), none, .idxS (.t 12) (.t 13)⟩,⟨(some 6), none, .mov (.t 14)⟩]
@[simp] def c_key_word_r5 : List Ir := [⟨(some 15), none, .mov (.t 6)⟩,⟨(some 16), none, .bin .lss 5 (.t 15) (.c (.int .u8 97))⟩,⟨(some 17), none, .mov (.t 16)⟩,⟨(some 18), (some (17, false)), .mov (.t 6)⟩,⟨(some 19), (some (17, false)), .bin .gtr 5 (.t 18) (.c (.int .u8 122))⟩,⟨(some 20), none, .pick (.t 17) (.c (.bool true)) (.t 19)⟩,⟨(some 21), none, .mov (.t 20)⟩,⟨(some 22), (some (21, true)), .mov (.t 6)⟩,⟨(some 23), (some (21, true)), .bin .lss 5 (.t 22) (.c (.int .u8 48))⟩,⟨(some 24), (some (21, true)), .mov (.t 23)⟩,⟨(some 25), (some (24, false)), .mov (.t 6)⟩,⟨(some 26), (some (24, false)), .bin .gtr 5 (.t 25) (.c (.int .u8 57))⟩,⟨(some 27), (some (21, true)), .pick (.t 24) (.c (.bool true)) (.t 26)⟩,⟨(some 28), none, .pick (.t 21) (.t 27) (.c (.bool false))⟩]
@[simp] def c_key_word_r6 : List Ir := [⟨(some 4), none, .mov (.c (.bool false))⟩]
@[simp] def c_key_word_r7 : List Ir := [⟨(some 29), none, .bin .add 3 (.t 9) (.c (.int .i64 1))⟩,⟨(some 9), none, .mov (.t 29)⟩]
def c_key_word_l8 : IC := (.seq (.reg c_key_word_r2) (.seq (.cond (.t 10) .skip (.exit 0)) (.seq (.block 1 (.seq (.reg c_key_word_r3) (.seq (.reg c_key_word_r4) (.seq (.reg c_key_word_r5) (.cond (.t 28) (.seq (.reg c_key_word_r6) .ret) .skip))))) (.reg c_key_word_r7))))
@[simp] def c_key_word_r9 : List Ir := [⟨(some 30), none, .mov (.t 0)⟩,⟨(some 31), none, .bin .neq 9 (.t 30) (.c (.string ⟨#[]⟩))⟩,⟨(some 32), none, .mov (.t 31)⟩,⟨(some 33), (some (32, true)), .mov (.t 0)⟩,⟨(some 34), (some (32, true)), .lenS (.t 33)⟩,⟨(some 35), (some (32, true)), .mov (.t 1)⟩,⟨(some 36), (some (32, true)), .bin .leq 3 (.t 34) (.t 35)⟩,⟨(some 37), none, .pick (.t 32) (.t 36) (.c (.bool false))⟩,⟨(some 4), none, .mov (.t 37)⟩]
@[simp] def c_key_word : IFn := ⟨(.seq (.reg c_key_word_r0) (.seq (.seq (.reg c_key_word_r1) (.block 0 (.loop c_key_word_l8))) (.seq (.reg c_key_word_r9) .ret))), 38, [.tmp 4]⟩

theorem fc_key_word : fnAt Try.prog f_key_word = some c_key_word := by kernel_rfl
@[simp] def c_slices_Clone_Info_r0 : List Ir := [⟨(some 2), none, .mov (.c (.slice none 0 0))⟩]
@[simp] def c_slices_Clone_Info_r1 : List Ir := [⟨(some 3), none, .mov (.t 0)⟩,⟨(some 4), none, .bin .eql 22 (.t 3) (.c (.slice none 0 0))⟩]
@[simp] def c_slices_Clone_Info_r2 : List Ir := [⟨(some 2), none, .mov (.c (.slice none 0 0))⟩]
@[simp] def c_slices_Clone_Info_r3 : List Ir := [⟨(some 5), none, .mkrow 5 0 [] []⟩,⟨(some 6), none, .mov (.t 0)⟩,⟨(some 7), none, .app 5 80 (.t 5) (.t 6)⟩,⟨(some 2), none, .mov (.t 7)⟩]
@[simp] def c_slices_Clone_Info : IFn := ⟨(.seq (.reg c_slices_Clone_Info_r0) (.seq (.seq (.reg c_slices_Clone_Info_r1) (.cond (.t 4) (.seq (.reg c_slices_Clone_Info_r2) .ret) .skip)) (.seq (.reg c_slices_Clone_Info_r3) .ret))), 8, [.tmp 2]⟩

theorem fc_slices_Clone_Info : fnAt Try.prog f_slices_Clone_Info = some c_slices_Clone_Info := by kernel_rfl
@[simp] def c_slices_rotateLeft_api_Info_r0 : List Ir := [⟨(some 4), none, .mov (.t 0)⟩,⟨(some 5), none, .mov (.t 1)⟩,⟨(some 6), none, .slv 5 (.t 4) none (some (.t 5)) none⟩,⟨(some 7), none, .call f_slices_Reverse_Info [(.t 6)]⟩]
@[simp] def c_slices_rotateLeft_api_Info_r1 : List Ir := [⟨(some 8), none, .mov (.t 0)⟩,⟨(some 9), none, .mov (.t 1)⟩,⟨(some 10), none, .slv 5 (.t 8) (some (.t 9)) none none⟩,⟨(some 11), none, .call f_slices_Reverse_Info [(.t 10)]⟩]
@[simp] def c_slices_rotateLeft_api_Info_r2 : List Ir := [⟨(some 12), none, .mov (.t 0)⟩,⟨(some 13), none, .call f_slices_Reverse_Info [(.t 12)]⟩]
@[simp] def c_slices_rotateLeft_api_Info : IFn := ⟨(.seq (.reg c_slices_rotateLeft_api_Info_r0) (.seq (.reg c_slices_rotateLeft_api_Info_r1) (.reg c_slices_rotateLeft_api_Info_r2))), 14, []⟩

theorem fc_slices_rotateLeft_api_Info : fnAt Try.prog f_slices_rotateLeft_api_Info = some c_slices_rotateLeft_api_Info := by kernel_rfl
@[simp] def c_slices_rotateLeft_api_File_r0 : List Ir := [⟨(some 4), none, .mov (.t 0)⟩,⟨(some 5), none, .mov (.t 1)⟩,⟨(some 6), none, .slv 3 (.t 4) none (some (.t 5)) none⟩,⟨(some 7), none, .call f_slices_Reverse_File [(.t 6)]⟩]
@[simp] def c_slices_rotateLeft_api_File_r1 : List Ir := [⟨(some 8), none, .mov (.t 0)⟩,⟨(some 9), none, .mov (.t 1)⟩,⟨(some 10), none, .slv 3 (.t 8) (some (.t 9)) none none⟩,⟨(some 11), none, .call f_slices_Reverse_File [(.t 10)]⟩]
@[simp] def c_slices_rotateLeft_api_File_r2 : List Ir := [⟨(some 12), none, .mov (.t 0)⟩,⟨(some 13), none, .call f_slices_Reverse_File [(.t 12)]⟩]
@[simp] def c_slices_rotateLeft_api_File : IFn := ⟨(.seq (.reg c_slices_rotateLeft_api_File_r0) (.seq (.reg c_slices_rotateLeft_api_File_r1) (.reg c_slices_rotateLeft_api_File_r2))), 14, []⟩

theorem fc_slices_rotateLeft_api_File : fnAt Try.prog f_slices_rotateLeft_api_File = some c_slices_rotateLeft_api_File := by kernel_rfl
@[simp] def c_slices_Reverse_Info_r0 : List Ir := [⟨(some 4), none, .mov (.t 0)⟩,⟨(some 5), none, .lenV (.t 4)⟩,⟨(some 6), none, .bin .sub 3 (.t 5) (.c (.int .i64 1))⟩,⟨(some 2), none, .mov (.c (.int .i64 0))⟩,⟨(some 3), none, .mov (.t 6)⟩]
@[simp] def c_slices_Reverse_Info_r1 : List Ir := [⟨(some 7), none, .mov (.t 2)⟩,⟨(some 8), none, .mov (.t 3)⟩,⟨(some 9), none, .bin .lss 3 (.t 7) (.t 8)⟩]
@[simp] def c_slices_Reverse_Info_r2 : List Ir := [⟨(some 14), none, .mov (.t 0)⟩,⟨(some 15), none, .mov (.t 2)⟩,⟨(some 16), none, .mov (.t 0)⟩,⟨(some 17), none, .mov (.t 3)⟩,⟨(some 18), none, .mov (.t 0)⟩,⟨(some 19), none, .mov (.t 3)⟩,⟨(some 20), none, .iadrS 5 (.t 18) (.t 19)⟩,⟨(some 21), none, .ldn 5 (.t 20)⟩,⟨(some 22), none, .mov (.t 0)⟩,⟨(some 23), none, .mov (.t 2)⟩,⟨(some 24), none, .iadrS 5 (.t 22) (.t 23)⟩,⟨(some 25), none, .ldn 5 (.t 24)⟩,⟨(some 26), none, .iadrS 5 (.t 14) (.t 15)⟩,⟨none, none, .st 5 (.t 26) (.t 21)⟩,⟨(some 27), none, .iadrS 5 (.t 16) (.t 17)⟩,⟨none, none, .st 5 (.t 27) (.t 25)⟩]
@[simp] def c_slices_Reverse_Info_r3 : List Ir := [⟨(some 10), none, .mov (.t 2)⟩,⟨(some 11), none, .bin .add 3 (.t 10) (.c (.int .i64 1))⟩,⟨(some 12), none, .mov (.t 3)⟩,⟨(some 13), none, .bin .sub 3 (.t 12) (.c (.int .i64 1))⟩,⟨(some 2), none, .mov (.t 11)⟩,⟨(some 3), none, .mov (.t 13)⟩]
def c_slices_Reverse_Info_l4 : IC := (.seq (.seq (.reg c_slices_Reverse_Info_r1) (.cond (.t 9) .skip (.exit 0))) (.seq (.block 1 (.regd c_slices_Reverse_Info_r2 [])) (.reg c_slices_Reverse_Info_r3)))
@[simp] def c_slices_Reverse_Info : IFn := ⟨(.seq (.reg c_slices_Reverse_Info_r0) (.block 0 (.loop c_slices_Reverse_Info_l4))), 28, []⟩

theorem fc_slices_Reverse_Info : fnAt Try.prog f_slices_Reverse_Info = some c_slices_Reverse_Info := by kernel_rfl
@[simp] def c_slices_Reverse_File_r0 : List Ir := [⟨(some 4), none, .mov (.t 0)⟩,⟨(some 5), none, .lenV (.t 4)⟩,⟨(some 6), none, .bin .sub 3 (.t 5) (.c (.int .i64 1))⟩,⟨(some 2), none, .mov (.c (.int .i64 0))⟩,⟨(some 3), none, .mov (.t 6)⟩]
@[simp] def c_slices_Reverse_File_r1 : List Ir := [⟨(some 7), none, .mov (.t 2)⟩,⟨(some 8), none, .mov (.t 3)⟩,⟨(some 9), none, .bin .lss 3 (.t 7) (.t 8)⟩]
@[simp] def c_slices_Reverse_File_r2 : List Ir := [⟨(some 14), none, .mov (.t 0)⟩,⟨(some 15), none, .mov (.t 2)⟩,⟨(some 16), none, .mov (.t 0)⟩,⟨(some 17), none, .mov (.t 3)⟩,⟨(some 18), none, .mov (.t 0)⟩,⟨(some 19), none, .mov (.t 3)⟩,⟨(some 20), none, .iadrS 3 (.t 18) (.t 19)⟩,⟨(some 21), none, .ldn 3 (.t 20)⟩,⟨(some 22), none, .mov (.t 0)⟩,⟨(some 23), none, .mov (.t 2)⟩,⟨(some 24), none, .iadrS 3 (.t 22) (.t 23)⟩,⟨(some 25), none, .ldn 3 (.t 24)⟩,⟨(some 26), none, .iadrS 3 (.t 14) (.t 15)⟩,⟨none, none, .st 3 (.t 26) (.t 21)⟩,⟨(some 27), none, .iadrS 3 (.t 16) (.t 17)⟩,⟨none, none, .st 3 (.t 27) (.t 25)⟩]
@[simp] def c_slices_Reverse_File_r3 : List Ir := [⟨(some 10), none, .mov (.t 2)⟩,⟨(some 11), none, .bin .add 3 (.t 10) (.c (.int .i64 1))⟩,⟨(some 12), none, .mov (.t 3)⟩,⟨(some 13), none, .bin .sub 3 (.t 12) (.c (.int .i64 1))⟩,⟨(some 2), none, .mov (.t 11)⟩,⟨(some 3), none, .mov (.t 13)⟩]
def c_slices_Reverse_File_l4 : IC := (.seq (.seq (.reg c_slices_Reverse_File_r1) (.cond (.t 9) .skip (.exit 0))) (.seq (.block 1 (.regd c_slices_Reverse_File_r2 [])) (.reg c_slices_Reverse_File_r3)))
@[simp] def c_slices_Reverse_File : IFn := ⟨(.seq (.reg c_slices_Reverse_File_r0) (.block 0 (.loop c_slices_Reverse_File_l4))), 28, []⟩

theorem fc_slices_Reverse_File : fnAt Try.prog f_slices_Reverse_File = some c_slices_Reverse_File := by kernel_rfl
end Go.AM
