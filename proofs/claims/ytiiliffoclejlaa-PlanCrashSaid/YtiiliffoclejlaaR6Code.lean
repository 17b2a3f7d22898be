import Derived.Test.YtiiliffoclejlaaR6CodeB
namespace Go.AM
open Go.Proofs
set_option maxRecDepth 1000000
@[simp] def c_record_Number_r0 : List Ir := [⟨(some 2), none, .mov (.c (.int .i64 0))⟩]
@[simp] def c_record_Number_r1 : List Ir := [⟨(some 3), none, .mov (.t 0)⟩,
  ⟨(some 4), none, .idxS (.t 3) (.c (.int .i64 0))⟩,
  ⟨(some 5), none, .ii .i64 (.t 4)⟩,
  ⟨(some 6), none, .bin .shl 3 (.t 5) (.c (.int .u64 24))⟩,
  ⟨(some 7), none, .mov (.t 0)⟩,
  ⟨(some 8), none, .idxS (.t 7) (.c (.int .i64 1))⟩,
  ⟨(some 9), none, .ii .i64 (.t 8)⟩,
  ⟨(some 10), none, .bin .shl 3 (.t 9) (.c (.int .u64 16))⟩,
  ⟨(some 11), none, .bin .or 3 (.t 6) (.t 10)⟩,
  ⟨(some 12), none, .mov (.t 0)⟩,
  ⟨(some 13), none, .idxS (.t 12) (.c (.int .i64 2))⟩,
  ⟨(some 14), none, .ii .i64 (.t 13)⟩,
  ⟨(some 15), none, .bin .shl 3 (.t 14) (.c (.int .u64 8))⟩,
  ⟨(some 16), none, .bin .or 3 (.t 11) (.t 15)⟩,
  ⟨(some 17), none, .mov (.t 0)⟩,
  ⟨(some 18), none, .idxS (.t 17) (.c (.int .i64 3))⟩,
  ⟨(some 19), none, .ii .i64 (.t 18)⟩,
  ⟨(some 20), none, .bin .or 3 (.t 16) (.t 19)⟩,
  ⟨(some 2), none, .mov (.t 20)⟩]
@[simp] def c_record_Number : IFn := ⟨(.seq (.reg c_record_Number_r0) (.seq (.regd c_record_Number_r1 []) .ret)), 21, [.tmp 2]⟩

theorem fc_record_Number : fnAt Try.prog f_record_Number = some c_record_Number := by kernel_rfl
@[simp] def c_math_bits_Mul64_r0 : List Ir := [⟨(some 4), none, .mov (.c (.int .u64 0))⟩,
  ⟨(some 5), none, .mov (.c (.int .u64 0))⟩]
@[simp] def c_math_bits_Mul64_r1 : List Ir := [⟨(some 14), none, .mov (.t 0)⟩,
  ⟨(some 15), none, .bin .and 191 (.t 14) (.c (.int .u64 4294967295))⟩,
  ⟨(some 6), none, .mov (.t 15)⟩]
@[simp] def c_math_bits_Mul64_r2 : List Ir := [⟨(some 16), none, .mov (.t 0)⟩,
  ⟨(some 17), none, .bin .shr 191 (.t 16) (.c (.int .u64 32))⟩,
  ⟨(some 7), none, .mov (.t 17)⟩]
@[simp] def c_math_bits_Mul64_r3 : List Ir := [⟨(some 18), none, .mov (.t 1)⟩,
  ⟨(some 19), none, .bin .and 191 (.t 18) (.c (.int .u64 4294967295))⟩,
  ⟨(some 8), none, .mov (.t 19)⟩]
@[simp] def c_math_bits_Mul64_r4 : List Ir := [⟨(some 20), none, .mov (.t 1)⟩,
  ⟨(some 21), none, .bin .shr 191 (.t 20) (.c (.int .u64 32))⟩,
  ⟨(some 9), none, .mov (.t 21)⟩]
@[simp] def c_math_bits_Mul64_r5 : List Ir := [⟨(some 22), none, .mov (.t 6)⟩,
  ⟨(some 23), none, .mov (.t 8)⟩,
  ⟨(some 24), none, .bin .mul 191 (.t 22) (.t 23)⟩,
  ⟨(some 10), none, .mov (.t 24)⟩]
@[simp] def c_math_bits_Mul64_r6 : List Ir := [⟨(some 25), none, .mov (.t 7)⟩,
  ⟨(some 26), none, .mov (.t 8)⟩,
  ⟨(some 27), none, .bin .mul 191 (.t 25) (.t 26)⟩,
  ⟨(some 28), none, .mov (.t 10)⟩,
  ⟨(some 29), none, .bin .shr 191 (.t 28) (.c (.int .u64 32))⟩,
  ⟨(some 30), none, .bin .add 191 (.t 27) (.t 29)⟩,
  ⟨(some 11), none, .mov (.t 30)⟩]
@[simp] def c_math_bits_Mul64_r7 : List Ir := [⟨(some 31), none, .mov (.t 11)⟩,
  ⟨(some 32), none, .bin .and 191 (.t 31) (.c (.int .u64 4294967295))⟩,
  ⟨(some 12), none, .mov (.t 32)⟩]
@[simp] def c_math_bits_Mul64_r8 : List Ir := [⟨(some 33), none, .mov (.t 11)⟩,
  ⟨(some 34), none, .bin .shr 191 (.t 33) (.c (.int .u64 32))⟩,
  ⟨(some 13), none, .mov (.t 34)⟩]
@[simp] def c_math_bits_Mul64_r9 : List Ir := [⟨(some 35), none, .mov (.t 12)⟩,
  ⟨(some 36), none, .mov (.t 6)⟩,
  ⟨(some 37), none, .mov (.t 9)⟩,
  ⟨(some 38), none, .bin .mul 191 (.t 36) (.t 37)⟩,
  ⟨(some 39), none, .bin .add 191 (.t 35) (.t 38)⟩,
  ⟨(some 12), none, .mov (.t 39)⟩]
@[simp] def c_math_bits_Mul64_r10 : List Ir := [⟨(some 40), none, .mov (.t 7)⟩,
  ⟨(some 41), none, .mov (.t 9)⟩,
  ⟨(some 42), none, .bin .mul 191 (.t 40) (.t 41)⟩,
  ⟨(some 43), none, .mov (.t 13)⟩,
  ⟨(some 44), none, .bin .add 191 (.t 42) (.t 43)⟩,
  ⟨(some 45), none, .mov (.t 12)⟩,
  ⟨(some 46), none, .bin .shr 191 (.t 45) (.c (.int .u64 32))⟩,
  ⟨(some 47), none, .bin .add 191 (.t 44) (.t 46)⟩,
  ⟨(some 4), none, .mov (.t 47)⟩]
@[simp] def c_math_bits_Mul64_r11 : List Ir := [⟨(some 48), none, .mov (.t 0)⟩,
  ⟨(some 49), none, .mov (.t 1)⟩,
  ⟨(some 50), none, .bin .mul 191 (.t 48) (.t 49)⟩,
  ⟨(some 5), none, .mov (.t 50)⟩]
@[simp] def c_math_bits_Mul64 : IFn := ⟨(.seq (.reg c_math_bits_Mul64_r0) (.seq (.reg c_math_bits_Mul64_r1) (.seq (.reg c_math_bits_Mul64_r2) (.seq (.reg c_math_bits_Mul64_r3) (.seq (.reg c_math_bits_Mul64_r4) (.seq (.reg c_math_bits_Mul64_r5) (.seq (.reg c_math_bits_Mul64_r6) (.seq (.reg c_math_bits_Mul64_r7) (.seq (.reg c_math_bits_Mul64_r8) (.seq (.reg c_math_bits_Mul64_r9) (.seq (.reg c_math_bits_Mul64_r10) (.seq (.reg c_math_bits_Mul64_r11) .ret)))))))))))), 51, [.tmp 4, .tmp 5]⟩

theorem fc_math_bits_Mul64 : fnAt Try.prog f_math_bits_Mul64 = some c_math_bits_Mul64 := by kernel_rfl
@[simp] def c_record_May_r0 : List Ir := [⟨(some 1), none, .box 4 (.t 0)⟩,
  ⟨(some 2), none, .mov (.c (.bool false))⟩]
@[simp] def c_record_May_r1 : List Ir := [⟨(some 5), none, .fadr 2 (.t 1)⟩,
  ⟨(some 6), none, .ld (.t 5)⟩,
  ⟨(some 7), none, .bin .eql 3 (.t 6) (.c (.int .i64 4))⟩,
  ⟨(some 8), none, .mov (.t 7)⟩,
  ⟨(some 9), (some (8, true)), .fadr 1 (.t 1)⟩,
  ⟨(some 10), (some (8, true)), .ld (.t 9)⟩,
  ⟨(some 11), (some (8, true)), .bin .eql 3 (.t 10) (.c (.int .i64 0))⟩,
  ⟨(some 12), none, .pick (.t 8) (.t 11) (.c (.bool false))⟩,
  ⟨(some 13), none, .mov (.t 12)⟩,
  ⟨(some 14), (some (13, true)), .fadr 3 (.t 1)⟩,
  ⟨(some 15), (some (13, true)), .ld (.t 14)⟩,
  ⟨(some 16), (some (13, true)), .bin .eql 9 (.t 15) (.c (.string ⟨#[]⟩))⟩,
  ⟨(some 17), none, .pick (.t 13) (.t 16) (.c (.bool false))⟩,
  ⟨(some 3), none, .mov (.t 17)⟩]
@[simp] def c_record_May_r2 : List Ir := [⟨(some 18), none, .fadr 2 (.t 1)⟩,
  ⟨(some 19), none, .ld (.t 18)⟩,
  ⟨(some 20), none, .bin .geq 3 (.t 19) (.c (.int .i64 0))⟩,
  ⟨(some 21), none, .mov (.t 20)⟩,
  ⟨(some 22), (some (21, true)), .fadr 2 (.t 1)⟩,
  ⟨(some 23), (some (21, true)), .ld (.t 22)⟩,
  ⟨(some 24), (some (21, true)), .bin .lss 3 (.t 23) (.c (.int .i64 4))⟩,
  ⟨(some 25), none, .pick (.t 21) (.t 24) (.c (.bool false))⟩,
  ⟨(some 26), none, .mov (.t 25)⟩,
  ⟨(some 27), (some (26, true)), .fadr 1 (.t 1)⟩,
  ⟨(some 28), (some (26, true)), .ld (.t 27)⟩,
  ⟨(some 29), (some (26, true)), .call f_record_Page [(.t 28)]⟩,
  ⟨(some 30), none, .pick (.t 26) (.t 29) (.c (.bool false))⟩,
  ⟨(some 31), none, .mov (.t 30)⟩,
  ⟨(some 32), (some (31, true)), .fadr 3 (.t 1)⟩,
  ⟨(some 33), (some (31, true)), .ld (.t 32)⟩,
  ⟨(some 34), (some (31, true)), .lenS (.t 33)⟩,
  ⟨(some 35), (some (31, true)), .bin .leq 3 (.t 34) (.c (.int .i64 24))⟩,
  ⟨(some 36), none, .pick (.t 31) (.t 35) (.c (.bool false))⟩,
  ⟨(some 4), none, .mov (.t 36)⟩]
@[simp] def c_record_May_r3 : List Ir := [⟨(some 37), none, .fadr 0 (.t 1)⟩,
  ⟨(some 38), none, .ld (.t 37)⟩,
  ⟨(some 39), none, .call f_record_Seq [(.t 38)]⟩,
  ⟨(some 40), none, .mov (.t 39)⟩,
  ⟨(some 41), (some (40, true)), .mov (.t 3)⟩,
  ⟨(some 42), (some (40, true)), .mov (.t 41)⟩,
  ⟨(some 43), (some (42, false)), .mov (.t 4)⟩,
  ⟨(some 44), (some (40, true)), .pick (.t 42) (.c (.bool true)) (.t 43)⟩,
  ⟨(some 45), none, .pick (.t 40) (.t 44) (.c (.bool false))⟩,
  ⟨(some 2), none, .mov (.t 45)⟩]
@[simp] def c_record_May : IFn := ⟨(.seq (.reg c_record_May_r0) (.seq (.reg c_record_May_r1) (.seq (.reg c_record_May_r2) (.seq (.reg c_record_May_r3) .ret)))), 46, [.tmp 2]⟩

theorem fc_record_May : fnAt Try.prog f_record_May = some c_record_May := by kernel_rfl
@[simp] def c_ref1_GetHead_r0 : List Ir := [⟨(some 2), none, .new [(.int .i64 0), (.int .i64 0)]⟩,
  ⟨(some 3), none, .mov (.c (.int .i64 0))⟩]
@[simp] def c_ref1_GetHead_r1 : List Ir := [⟨(some 7), none, .mov (.t 0)⟩,
  ⟨(some 8), none, .lenS (.t 7)⟩,
  ⟨(some 9), none, .bin .neq 3 (.t 8) (.c (.int .i64 32))⟩]
@[simp] def c_ref1_GetHead_r2 : List Ir := [⟨(some 10), none, .build [(.int .i64 0), (.int .i64 0)] []⟩,
  ⟨none, none, .st 2 (.t 2) (.t 10)⟩,
  ⟨(some 3), none, .mov (.c (.int .i64 500))⟩]
@[simp] def c_ref1_GetHead_r3 : List Ir := [⟨(some 11), none, .mov (.t 0)⟩,
  ⟨(some 12), none, .sls (.t 11) (some (.c (.int .i64 4))) (some (.c (.int .i64 8)))⟩,
  ⟨(some 14), none, .mov (.t 0)⟩,
  ⟨(some 15), none, .sls (.t 14) (some (.c (.int .i64 8))) (some (.c (.int .i64 12)))⟩,
  ⟨(some 4), none, .new [(.int .i64 0), (.int .i64 0)]⟩,
  ⟨(some 13), none, .call f_ref1_Of [(.t 12)]⟩,
  ⟨(some 16), none, .call f_ref1_Of [(.t 15)]⟩,
  ⟨(some 17), none, .build [(.int .i64 0), (.int .i64 0)] [(0, (1, (.t 13))), (1, (1, (.t 16)))]⟩,
  ⟨none, none, .st 2 (.t 4) (.t 17)⟩]
@[simp] def c_ref1_GetHead_r4 : List Ir := [⟨(some 19), none, .ldn 2 (.t 4)⟩,
  ⟨(some 20), none, .call f_ref1_PutHead [(.t 19)]⟩,
  ⟨(some 18), none, .mov (.t 20)⟩,
  ⟨(some 21), none, .ext 0 (.t 18)⟩,
  ⟨(some 22), none, .ext 1 (.t 18)⟩,
  ⟨(some 5), none, .mov (.t 21)⟩,
  ⟨(some 6), none, .mov (.t 22)⟩]
@[simp] def c_ref1_GetHead_r5 : List Ir := [⟨(some 23), none, .mov (.t 6)⟩,
  ⟨(some 24), none, .bin .neq 3 (.t 23) (.c (.int .i64 0))⟩,
  ⟨(some 25), none, .mov (.t 24)⟩,
  ⟨(some 26), (some (25, false)), .mov (.t 5)⟩,
  ⟨(some 27), (some (25, false)), .mov (.t 0)⟩,
  ⟨(some 28), (some (25, false)), .bin .neq 9 (.t 26) (.t 27)⟩,
  ⟨(some 29), none, .pick (.t 25) (.c (.bool true)) (.t 28)⟩]
@[simp] def c_ref1_GetHead_r6 : List Ir := [⟨(some 30), none, .build [(.int .i64 0), (.int .i64 0)] []⟩,
  ⟨none, none, .st 2 (.t 2) (.t 30)⟩,
  ⟨(some 3), none, .mov (.c (.int .i64 500))⟩]
@[simp] def c_ref1_GetHead_r7 : List Ir := [⟨(some 31), none, .ldn 2 (.t 4)⟩,
  ⟨none, none, .st 2 (.t 2) (.t 31)⟩,
  ⟨(some 3), none, .mov (.c (.int .i64 0))⟩]
@[simp] def c_ref1_GetHead : IFn := ⟨(.seq (.reg c_ref1_GetHead_r0) (.seq (.seq (.reg c_ref1_GetHead_r1) (.cond (.t 9) (.seq (.reg c_ref1_GetHead_r2) .ret) .skip)) (.seq (.regd c_ref1_GetHead_r3 []) (.seq (.reg c_ref1_GetHead_r4) (.seq (.seq (.reg c_ref1_GetHead_r5) (.cond (.t 29) (.seq (.reg c_ref1_GetHead_r6) .ret) .skip)) (.seq (.reg c_ref1_GetHead_r7) .ret)))))), 32, [.ldn 2 2, .tmp 3]⟩

theorem fc_ref1_GetHead : fnAt Try.prog f_ref1_GetHead = some c_ref1_GetHead := by kernel_rfl
@[simp] def c_ref1_Of_r0 : List Ir := [⟨(some 2), none, .mov (.c (.int .i64 0))⟩]
@[simp] def c_ref1_Of_r1 : List Ir := [⟨(some 3), none, .mov (.t 0)⟩,
  ⟨(some 4), none, .idxS (.t 3) (.c (.int .i64 0))⟩,
  ⟨(some 5), none, .ii .i64 (.t 4)⟩,
  ⟨(some 6), none, .bin .shl 3 (.t 5) (.c (.int .u64 24))⟩,
  ⟨(some 7), none, .mov (.t 0)⟩,
  ⟨(some 8), none, .idxS (.t 7) (.c (.int .i64 1))⟩,
  ⟨(some 9), none, .ii .i64 (.t 8)⟩,
  ⟨(some 10), none, .bin .shl 3 (.t 9) (.c (.int .u64 16))⟩,
  ⟨(some 11), none, .bin .or 3 (.t 6) (.t 10)⟩,
  ⟨(some 12), none, .mov (.t 0)⟩,
  ⟨(some 13), none, .idxS (.t 12) (.c (.int .i64 2))⟩,
  ⟨(some 14), none, .ii .i64 (.t 13)⟩,
  ⟨(some 15), none, .bin .shl 3 (.t 14) (.c (.int .u64 8))⟩,
  ⟨(some 16), none, .bin .or 3 (.t 11) (.t 15)⟩,
  ⟨(some 17), none, .mov (.t 0)⟩,
  ⟨(some 18), none, .idxS (.t 17) (.c (.int .i64 3))⟩,
  ⟨(some 19), none, .ii .i64 (.t 18)⟩,
  ⟨(some 20), none, .bin .or 3 (.t 16) (.t 19)⟩,
  ⟨(some 2), none, .mov (.t 20)⟩]
@[simp] def c_ref1_Of : IFn := ⟨(.seq (.reg c_ref1_Of_r0) (.seq (.regd c_ref1_Of_r1 []) .ret)), 21, [.tmp 2]⟩

theorem fc_ref1_Of : fnAt Try.prog f_ref1_Of = some c_ref1_Of := by kernel_rfl
@[simp] def c_log_scanner_commit_r0 : List Ir := [⟨(some 4), none, .mov (.c (.bool false))⟩]
@[simp] def c_log_scanner_commit_r1 : List Ir := [⟨(some 5), none, .mov (.t 0)⟩,
  ⟨(some 6), none, .nilck (.t 5)⟩,
  ⟨(some 7), none, .fadr 3 (.t 6)⟩,
  ⟨(some 8), none, .ld (.t 7)⟩,
  ⟨(some 9), none, .bin .neq 3 (.t 8) (.c (.int .i64 0))⟩]
@[simp] def c_log_scanner_commit_r2 : List Ir := [⟨(some 4), none, .mov (.c (.bool false))⟩]
@[simp] def c_log_scanner_commit_r3 : List Ir := [⟨(some 10), none, .mov (.t 0)⟩,
  ⟨(some 11), none, .mov (.t 0)⟩,
  ⟨(some 12), none, .mov (.t 0)⟩,
  ⟨(some 13), none, .mov (.t 0)⟩,
  ⟨(some 14), none, .nilck (.t 13)⟩,
  ⟨(some 15), none, .fadr 0 (.t 14)⟩,
  ⟨(some 16), none, .ld (.t 15)⟩,
  ⟨(some 17), none, .mov (.t 0)⟩,
  ⟨(some 18), none, .nilck (.t 17)⟩,
  ⟨(some 19), none, .fadr 2 (.t 18)⟩,
  ⟨(some 20), none, .ld (.t 19)⟩,
  ⟨(some 21), none, .mkrow 1 1 [(.slice none 0 0)] [(0, (1, (.t 20)))]⟩,
  ⟨(some 23), none, .mov (.t 1)⟩,
  ⟨(some 24), none, .bin .add 3 (.t 23) (.c (.int .i64 1))⟩,
  ⟨(some 22), none, .app 1 24 (.t 16) (.t 21)⟩,
  ⟨(some 25), none, .nilck (.t 10)⟩,
  ⟨(some 26), none, .fadr 0 (.t 25)⟩,
  ⟨none, none, .st 1 (.t 26) (.t 22)⟩,
  ⟨(some 27), none, .nilck (.t 11)⟩,
  ⟨(some 28), none, .fadr 2 (.t 27)⟩,
  ⟨none, none, .st 1 (.t 28) (.c (.slice none 0 0))⟩,
  ⟨(some 29), none, .nilck (.t 12)⟩,
  ⟨(some 30), none, .fadr 1 (.t 29)⟩,
  ⟨none, none, .st 1 (.t 30) (.t 24)⟩]
@[simp] def c_log_scanner_commit_r4 : List Ir := [⟨(some 4), none, .mov (.c (.bool true))⟩]
@[simp] def c_log_scanner_commit : IFn := ⟨(.seq (.reg c_log_scanner_commit_r0) (.seq (.seq (.reg c_log_scanner_commit_r1) (.cond (.t 9) (.seq (.reg c_log_scanner_commit_r2) .ret) .skip)) (.seq (.regd c_log_scanner_commit_r3 []) (.seq (.reg c_log_scanner_commit_r4) .ret)))), 31, [.tmp 4]⟩

theorem fc_log_scanner_commit : fnAt Try.prog f_log_scanner_commit = some c_log_scanner_commit := by kernel_rfl
end Go.AM
