import Derived.Test.YteamlnogjjgdoaaAmSound
import Derived.Test.YteamlnogjjgdoaaProg
import Derived.KernelRfl
namespace Go.AM
open Go.Proofs
set_option maxRecDepth 1000000
abbrev f_law4_Logs : FuncId := 3
abbrev f_law4_LogBack : FuncId := 4
abbrev f_law4_LogForms : FuncId := 5
abbrev f_law4_LogParts : FuncId := 6
abbrev f_law4_LogStops : FuncId := 7
abbrev f_law4_LogEmpty : FuncId := 8
abbrev f_law4_LogLater : FuncId := 9
abbrev f_law0_LendImages : FuncId := 16
abbrev f_law0_LendTexts : FuncId := 17
abbrev f_log_Make : FuncId := 18
abbrev f_ref1_Make : FuncId := 19
abbrev f_log_Scan : FuncId := 20
abbrev f_ref1_Scan : FuncId := 21
abbrev f_law0_SameRecords : FuncId := 22
abbrev f_law0_Num : FuncId := 23
abbrev f_law4_sameTxns : FuncId := 24
abbrev f_law0_SpoilRecords : FuncId := 25
abbrev f_law0_SpoilImages : FuncId := 26
abbrev f_law0_KeptImages : FuncId := 27
abbrev f_law0_KeptTexts : FuncId := 28
abbrev f_law4_awake : FuncId := 29
abbrev f_law4_texts : FuncId := 30
abbrev f_ref1_PutRecord : FuncId := 31
abbrev f_law0_CopyImages : FuncId := 47
abbrev f_law0_CopyTexts : FuncId := 48
abbrev f_log_Images : FuncId := 49
abbrev f_record_Seq : FuncId := 50
abbrev f_log_Count : FuncId := 51
abbrev f_log_Parts : FuncId := 52
abbrev f_ref1_ImagesMay : FuncId := 53
abbrev f_ref1_seqMay : FuncId := 54
abbrev f_ref1_part : FuncId := 55
abbrev f_record_Get : FuncId := 56
abbrev f_log_scanner_take : FuncId := 57
abbrev f_ref1_one : FuncId := 58
abbrev f_law0_SameImages : FuncId := 59
abbrev f_law0_SameTexts : FuncId := 60
abbrev f_ref1_RecordMay : FuncId := 61
abbrev f_ref1_Num : FuncId := 62
abbrev f_ref1_zeros : FuncId := 63
abbrev f_law0_SpoilTexts : FuncId := 79
abbrev f_strings_Repeat : FuncId := 82
abbrev f_record_Page : FuncId := 83
abbrev f_ref1_textMay : FuncId := 84
abbrev f_record_Number : FuncId := 85
abbrev f_record_Put : FuncId := 86
abbrev f_log_scanner_commit : FuncId := 87
abbrev f_ref1_GetRecord : FuncId := 88
abbrev f_record_May : FuncId := 98
abbrev f_record_Fill : FuncId := 99
abbrev f_record_Four : FuncId := 100
abbrev f_ref1_Of : FuncId := 101
@[simp] def c_law4_Logs_r0 : List Ir := [⟨(some 6), none, .mov (.c (.bool false))⟩]
@[simp] def c_law4_Logs_r1 : List Ir := [⟨(some 22), none, .mov (.t 0)⟩,
  ⟨(some 23), none, .call f_law0_LendImages [(.t 22)]⟩,
  ⟨(some 24), none, .mov (.t 1)⟩,
  ⟨(some 25), none, .call f_law0_LendTexts [(.t 24)]⟩,
  ⟨(some 7), none, .mov (.t 23)⟩,
  ⟨(some 8), none, .mov (.t 25)⟩]
@[simp] def c_law4_Logs_r2 : List Ir := [⟨(some 27), none, .mov (.t 7)⟩,
  ⟨(some 28), none, .mov (.t 2)⟩,
  ⟨(some 29), none, .call f_log_Make [(.t 27), (.t 28)]⟩,
  ⟨(some 26), none, .mov (.t 29)⟩,
  ⟨(some 30), none, .ext 0 (.t 26)⟩,
  ⟨(some 31), none, .ext 1 (.t 26)⟩,
  ⟨(some 9), none, .mov (.t 30)⟩,
  ⟨(some 10), none, .mov (.t 31)⟩]
@[simp] def c_law4_Logs_r3 : List Ir := [⟨(some 33), none, .mov (.t 0)⟩,
  ⟨(some 34), none, .mov (.t 2)⟩,
  ⟨(some 35), none, .call f_ref1_Make [(.t 33), (.t 34)]⟩,
  ⟨(some 32), none, .mov (.t 35)⟩,
  ⟨(some 36), none, .ext 0 (.t 32)⟩,
  ⟨(some 37), none, .ext 1 (.t 32)⟩,
  ⟨(some 11), none, .mov (.t 36)⟩,
  ⟨(some 12), none, .mov (.t 37)⟩]
@[simp] def c_law4_Logs_r4 : List Ir := [⟨(some 39), none, .mov (.t 8)⟩,
  ⟨(some 40), none, .mov (.t 2)⟩,
  ⟨(some 41), none, .call f_log_Scan [(.t 39), (.t 40)]⟩,
  ⟨(some 38), none, .mov (.t 41)⟩,
  ⟨(some 42), none, .ext 0 (.t 38)⟩,
  ⟨(some 43), none, .ext 1 (.t 38)⟩,
  ⟨(some 44), none, .ext 2 (.t 38)⟩,
  ⟨(some 45), none, .ext 3 (.t 38)⟩,
  ⟨(some 13), none, .mov (.t 42)⟩,
  ⟨(some 14), none, .mov (.t 43)⟩,
  ⟨(some 15), none, .mov (.t 44)⟩,
  ⟨(some 16), none, .mov (.t 45)⟩]
@[simp] def c_law4_Logs_r5 : List Ir := [⟨(some 47), none, .mov (.t 1)⟩,
  ⟨(some 48), none, .mov (.t 2)⟩,
  ⟨(some 49), none, .call f_ref1_Scan [(.t 47), (.t 48)]⟩,
  ⟨(some 46), none, .mov (.t 49)⟩,
  ⟨(some 50), none, .ext 0 (.t 46)⟩,
  ⟨(some 51), none, .ext 1 (.t 46)⟩,
  ⟨(some 52), none, .ext 2 (.t 46)⟩,
  ⟨(some 53), none, .ext 3 (.t 46)⟩,
  ⟨(some 17), none, .mov (.t 50)⟩,
  ⟨(some 18), none, .mov (.t 51)⟩,
  ⟨(some 19), none, .mov (.t 52)⟩,
  ⟨(some 20), none, .mov (.t 53)⟩]
@[simp] def c_law4_Logs_r6 : List Ir := [⟨(some 54), none, .mov (.t 9)⟩,
  ⟨(some 55), none, .mov (.t 11)⟩,
  ⟨(some 56), none, .call f_law0_SameRecords [(.t 54), (.t 55)]⟩,
  ⟨(some 57), none, .un .not (.t 56)⟩,
  ⟨(some 58), none, .mov (.t 57)⟩,
  ⟨(some 59), (some (58, false)), .mov (.t 10)⟩,
  ⟨(some 60), (some (58, false)), .call f_law0_Num [(.t 59)]⟩,
  ⟨(some 61), (some (58, false)), .mov (.t 12)⟩,
  ⟨(some 62), (some (58, false)), .bin .neq 3 (.t 60) (.t 61)⟩,
  ⟨(some 63), none, .pick (.t 58) (.c (.bool true)) (.t 62)⟩,
  ⟨(some 64), none, .mov (.t 63)⟩,
  ⟨(some 65), (some (64, false)), .mov (.t 13)⟩,
  ⟨(some 66), (some (64, false)), .mov (.t 17)⟩,
  ⟨(some 67), (some (64, false)), .call f_law4_sameTxns [(.t 65), (.t 66)]⟩,
  ⟨(some 68), (some (64, false)), .un .not (.t 67)⟩,
  ⟨(some 69), none, .pick (.t 64) (.c (.bool true)) (.t 68)⟩,
  ⟨(some 70), none, .mov (.t 69)⟩,
  ⟨(some 71), (some (70, false)), .mov (.t 14)⟩,
  ⟨(some 72), (some (70, false)), .mov (.t 18)⟩,
  ⟨(some 73), (some (70, false)), .bin .neq 3 (.t 71) (.t 72)⟩,
  ⟨(some 74), none, .pick (.t 70) (.c (.bool true)) (.t 73)⟩,
  ⟨(some 75), none, .mov (.t 74)⟩,
  ⟨(some 76), (some (75, false)), .mov (.t 15)⟩,
  ⟨(some 77), (some (75, false)), .mov (.t 19)⟩,
  ⟨(some 78), (some (75, false)), .bin .neq 3 (.t 76) (.t 77)⟩,
  ⟨(some 79), none, .pick (.t 75) (.c (.bool true)) (.t 78)⟩,
  ⟨(some 80), none, .mov (.t 79)⟩,
  ⟨(some 81), (some (80, false)), .mov (.t 16)⟩,
  ⟨(some 82), (some (80, false)), .call f_law0_Num [(.t 81)]⟩,
  ⟨(some 83), (some (80, false)), .mov (.t 20)⟩,
  ⟨(some 84), (some (80, false)), .bin .neq 3 (.t 82) (.t 83)⟩,
  ⟨(some 85), none, .pick (.t 80) (.c (.bool true)) (.t 84)⟩]
@[simp] def c_law4_Logs_r7 : List Ir := [⟨(some 6), none, .mov (.c (.bool false))⟩]
@[simp] def c_law4_Logs_r8 : List Ir := [⟨(some 86), none, .mov (.t 9)⟩,
  ⟨(some 87), none, .call f_law0_SpoilRecords [(.t 86)]⟩]
@[simp] def c_law4_Logs_r9 : List Ir := [⟨(some 21), none, .mov (.c (.int .i64 0))⟩]
@[simp] def c_law4_Logs_r10 : List Ir := [⟨(some 88), none, .mov (.t 21)⟩,
  ⟨(some 89), none, .mov (.t 13)⟩,
  ⟨(some 90), none, .lenV (.t 89)⟩,
  ⟨(some 91), none, .bin .lss 3 (.t 88) (.t 90)⟩]
@[simp] def c_law4_Logs_r11 : List Ir := [⟨(some 94), none, .mov (.t 13)⟩,
  ⟨(some 95), none, .mov (.t 21)⟩,
  ⟨(some 96), none, .iadrS 1 (.t 94) (.t 95)⟩,
  ⟨(some 97), none, .ld (.t 96)⟩,
  ⟨(some 98), none, .call f_law0_SpoilImages [(.t 97)]⟩]
@[simp] def c_law4_Logs_r12 : List Ir := [⟨(some 92), none, .mov (.t 21)⟩,
  ⟨(some 93), none, .bin .add 3 (.t 92) (.c (.int .i64 1))⟩,
  ⟨(some 21), none, .mov (.t 93)⟩]
def c_law4_Logs_l13 : IC := (.seq (.seq (.reg c_law4_Logs_r10) (.cond (.t 91) .skip (.exit 0))) (.seq (.block 1 (.reg c_law4_Logs_r11)) (.reg c_law4_Logs_r12)))
@[simp] def c_law4_Logs_r14 : List Ir := [⟨(some 99), none, .mov (.t 7)⟩,
  ⟨(some 100), none, .mov (.t 0)⟩,
  ⟨(some 101), none, .call f_law0_KeptImages [(.t 99), (.t 100)]⟩,
  ⟨(some 102), none, .mov (.t 101)⟩,
  ⟨(some 103), (some (102, true)), .mov (.t 8)⟩,
  ⟨(some 104), (some (102, true)), .mov (.t 1)⟩,
  ⟨(some 105), (some (102, true)), .call f_law0_KeptTexts [(.t 103), (.t 104)]⟩,
  ⟨(some 106), none, .pick (.t 102) (.t 105) (.c (.bool false))⟩,
  ⟨(some 107), none, .mov (.t 106)⟩,
  ⟨(some 108), (some (107, true)), .call f_law4_awake []⟩,
  ⟨(some 109), none, .pick (.t 107) (.t 108) (.c (.bool false))⟩,
  ⟨(some 6), none, .mov (.t 109)⟩]
@[simp] def c_law4_Logs : IFn := ⟨(.seq (.reg c_law4_Logs_r0) (.seq (.reg c_law4_Logs_r1) (.seq (.reg c_law4_Logs_r2) (.seq (.reg c_law4_Logs_r3) (.seq (.reg c_law4_Logs_r4) (.seq (.reg c_law4_Logs_r5) (.seq (.seq (.reg c_law4_Logs_r6) (.cond (.t 85) (.seq (.reg c_law4_Logs_r7) .ret) .skip)) (.seq (.reg c_law4_Logs_r8) (.seq (.seq (.reg c_law4_Logs_r9) (.block 0 (.loop c_law4_Logs_l13))) (.seq (.reg c_law4_Logs_r14) .ret)))))))))), 110, [.tmp 6]⟩
@[simp] def c_law4_LogBack_r0 : List Ir := [⟨(some 8), none, .mov (.c (.bool false))⟩]
@[simp] def c_law4_LogBack_r1 : List Ir := [⟨(some 24), none, .call f_law4_awake []⟩,
  ⟨(some 25), none, .un .not (.t 24)⟩]
@[simp] def c_law4_LogBack_r2 : List Ir := [⟨(some 8), none, .mov (.c (.bool false))⟩]
@[simp] def c_law4_LogBack_r3 : List Ir := [⟨(some 26), none, .mov (.t 2)⟩,
  ⟨(some 27), none, .bin .and 3 (.t 26) (.c (.int .i64 65535))⟩,
  ⟨(some 28), none, .bin .add 3 (.c (.int .i64 1)) (.t 27)⟩,
  ⟨(some 9), none, .mov (.t 28)⟩]
@[simp] def c_law4_LogBack_r4 : List Ir := [⟨(some 30), none, .mov (.t 0)⟩,
  ⟨(some 31), none, .mov (.t 9)⟩,
  ⟨(some 32), none, .call f_log_Make [(.t 30), (.t 31)]⟩,
  ⟨(some 29), none, .mov (.t 32)⟩,
  ⟨(some 33), none, .ext 0 (.t 29)⟩,
  ⟨(some 34), none, .ext 1 (.t 29)⟩,
  ⟨(some 10), none, .mov (.t 33)⟩,
  ⟨(some 11), none, .mov (.t 34)⟩]
@[simp] def c_law4_LogBack_r5 : List Ir := [⟨(some 35), none, .mov (.t 11)⟩,
  ⟨(some 36), none, .call f_law0_Num [(.t 35)]⟩,
  ⟨(some 37), none, .bin .neq 3 (.t 36) (.c (.int .i64 0))⟩]
@[simp] def c_law4_LogBack_r6 : List Ir := [⟨(some 38), none, .mov (.t 10)⟩,
  ⟨(some 39), none, .lenV (.t 38)⟩,
  ⟨(some 40), none, .bin .eql 3 (.t 39) (.c (.int .i64 0))⟩,
  ⟨(some 8), none, .mov (.t 40)⟩]
@[simp] def c_law4_LogBack_r7 : List Ir := [⟨(some 42), none, .mov (.t 1)⟩,
  ⟨(some 43), none, .mov (.t 9)⟩,
  ⟨(some 44), none, .mov (.t 10)⟩,
  ⟨(some 45), none, .lenV (.t 44)⟩,
  ⟨(some 46), none, .bin .add 3 (.t 43) (.t 45)⟩,
  ⟨(some 47), none, .call f_log_Make [(.t 42), (.t 46)]⟩,
  ⟨(some 41), none, .mov (.t 47)⟩,
  ⟨(some 48), none, .ext 0 (.t 41)⟩,
  ⟨(some 49), none, .ext 1 (.t 41)⟩,
  ⟨(some 12), none, .mov (.t 48)⟩,
  ⟨(some 13), none, .mov (.t 49)⟩]
@[simp] def c_law4_LogBack_r8 : List Ir := [⟨(some 50), none, .mov (.t 13)⟩,
  ⟨(some 51), none, .call f_law0_Num [(.t 50)]⟩,
  ⟨(some 52), none, .bin .neq 3 (.t 51) (.c (.int .i64 0))⟩]
@[simp] def c_law4_LogBack_r9 : List Ir := [⟨(some 53), none, .mov (.t 12)⟩,
  ⟨(some 54), none, .lenV (.t 53)⟩,
  ⟨(some 55), none, .bin .eql 3 (.t 54) (.c (.int .i64 0))⟩,
  ⟨(some 8), none, .mov (.t 55)⟩]
@[simp] def c_law4_LogBack_r10 : List Ir := [⟨(some 56), none, .mov (.t 10)⟩,
  ⟨(some 57), none, .lenV (.t 56)⟩,
  ⟨(some 58), none, .mov (.t 12)⟩,
  ⟨(some 59), none, .lenV (.t 58)⟩,
  ⟨(some 60), none, .bin .add 3 (.t 57) (.t 59)⟩,
  ⟨(some 61), none, .bin .gtr 3 (.t 60) (.c (.int .i64 200))⟩,
  ⟨(some 62), none, .mov (.t 61)⟩,
  ⟨(some 63), (some (62, false)), .mov (.t 12)⟩,
  ⟨(some 64), (some (62, false)), .lenV (.t 63)⟩,
  ⟨(some 65), (some (62, false)), .bin .lss 3 (.t 64) (.c (.int .i64 1))⟩,
  ⟨(some 66), none, .pick (.t 62) (.c (.bool true)) (.t 65)⟩]
@[simp] def c_law4_LogBack_r11 : List Ir := [⟨(some 67), none, .mov (.t 12)⟩,
  ⟨(some 68), none, .lenV (.t 67)⟩,
  ⟨(some 69), none, .bin .gtr 3 (.t 68) (.c (.int .i64 0))⟩,
  ⟨(some 8), none, .mov (.t 69)⟩]
@[simp] def c_law4_LogBack_r12 : List Ir := [⟨(some 70), none, .mov (.t 10)⟩,
  ⟨(some 71), none, .call f_law4_texts [(.t 70)]⟩,
  ⟨(some 72), none, .mov (.t 12)⟩,
  ⟨(some 73), none, .call f_law4_texts [(.t 72)]⟩,
  ⟨(some 74), none, .app 1 16 (.t 71) (.t 73)⟩,
  ⟨(some 14), none, .mov (.t 74)⟩]
@[simp] def c_law4_LogBack_r13 : List Ir := [⟨(some 76), none, .mov (.t 14)⟩,
  ⟨(some 77), none, .mov (.t 9)⟩,
  ⟨(some 78), none, .call f_log_Scan [(.t 76), (.t 77)]⟩,
  ⟨(some 75), none, .mov (.t 78)⟩,
  ⟨(some 79), none, .ext 0 (.t 75)⟩,
  ⟨(some 80), none, .ext 1 (.t 75)⟩,
  ⟨(some 81), none, .ext 2 (.t 75)⟩,
  ⟨(some 82), none, .ext 3 (.t 75)⟩,
  ⟨(some 15), none, .mov (.t 79)⟩,
  ⟨(some 16), none, .mov (.t 80)⟩,
  ⟨(some 17), none, .mov (.t 81)⟩,
  ⟨(some 18), none, .mov (.t 82)⟩]
@[simp] def c_law4_LogBack_r14 : List Ir := [⟨(some 83), none, .mov (.t 10)⟩,
  ⟨(some 84), none, .lenV (.t 83)⟩,
  ⟨(some 85), none, .mov (.t 3)⟩,
  ⟨(some 86), none, .ii .u64 (.t 85)⟩,
  ⟨(some 87), none, .mov (.t 12)⟩,
  ⟨(some 88), none, .lenV (.t 87)⟩,
  ⟨(some 89), none, .ii .u64 (.t 88)⟩,
  ⟨(some 90), none, .bin .rem 47 (.t 86) (.t 89)⟩,
  ⟨(some 91), none, .ii .i64 (.t 90)⟩,
  ⟨(some 92), none, .bin .add 3 (.t 84) (.t 91)⟩,
  ⟨(some 19), none, .mov (.t 92)⟩]
@[simp] def c_law4_LogBack_r15 : List Ir := [⟨(some 94), none, .mov (.t 14)⟩,
  ⟨(some 95), none, .mov (.t 19)⟩,
  ⟨(some 96), none, .slv 1 (.t 94) none (some (.t 95)) none⟩,
  ⟨(some 97), none, .mov (.t 9)⟩,
  ⟨(some 98), none, .call f_log_Scan [(.t 96), (.t 97)]⟩,
  ⟨(some 93), none, .mov (.t 98)⟩,
  ⟨(some 99), none, .ext 0 (.t 93)⟩,
  ⟨(some 100), none, .ext 1 (.t 93)⟩,
  ⟨(some 101), none, .ext 2 (.t 93)⟩,
  ⟨(some 102), none, .ext 3 (.t 93)⟩,
  ⟨(some 20), none, .mov (.t 99)⟩,
  ⟨(some 21), none, .mov (.t 100)⟩,
  ⟨(some 22), none, .mov (.t 101)⟩,
  ⟨(some 23), none, .mov (.t 102)⟩]
@[simp] def c_law4_LogBack_r16 : List Ir := [⟨(some 103), none, .mov (.t 18)⟩,
  ⟨(some 104), none, .call f_law0_Num [(.t 103)]⟩,
  ⟨(some 105), none, .bin .eql 3 (.t 104) (.c (.int .i64 0))⟩,
  ⟨(some 106), none, .mov (.t 105)⟩,
  ⟨(some 107), (some (106, true)), .mov (.t 15)⟩,
  ⟨(some 108), (some (106, true)), .mov (.t 0)⟩,
  ⟨(some 109), (some (106, true)), .mov (.t 1)⟩,
  ⟨(some 110), (some (106, true)), .mkrow 1 2 [(.slice none 0 0), (.slice none 0 0)] [(0, (1, (.t 108))), (1, (1, (.t 109)))]⟩,
  ⟨(some 111), (some (106, true)), .call f_law4_sameTxns [(.t 107), (.t 110)]⟩,
  ⟨(some 112), none, .pick (.t 106) (.t 111) (.c (.bool false))⟩,
  ⟨(some 113), none, .mov (.t 112)⟩,
  ⟨(some 114), (some (113, true)), .mov (.t 16)⟩,
  ⟨(some 115), (some (113, true)), .mov (.t 9)⟩,
  ⟨(some 116), (some (113, true)), .mov (.t 14)⟩,
  ⟨(some 117), (some (113, true)), .lenV (.t 116)⟩,
  ⟨(some 118), (some (113, true)), .bin .add 3 (.t 115) (.t 117)⟩,
  ⟨(some 119), (some (113, true)), .bin .eql 3 (.t 114) (.t 118)⟩,
  ⟨(some 120), none, .pick (.t 113) (.t 119) (.c (.bool false))⟩,
  ⟨(some 121), none, .mov (.t 120)⟩,
  ⟨(some 122), (some (121, true)), .mov (.t 17)⟩,
  ⟨(some 123), (some (121, true)), .mov (.t 14)⟩,
  ⟨(some 124), (some (121, true)), .lenV (.t 123)⟩,
  ⟨(some 125), (some (121, true)), .bin .eql 3 (.t 122) (.t 124)⟩,
  ⟨(some 126), none, .pick (.t 121) (.t 125) (.c (.bool false))⟩,
  ⟨(some 127), none, .mov (.t 126)⟩,
  ⟨(some 128), (some (127, true)), .mov (.t 23)⟩,
  ⟨(some 129), (some (127, true)), .call f_law0_Num [(.t 128)]⟩,
  ⟨(some 130), (some (127, true)), .bin .eql 3 (.t 129) (.c (.int .i64 0))⟩,
  ⟨(some 131), none, .pick (.t 127) (.t 130) (.c (.bool false))⟩,
  ⟨(some 132), none, .mov (.t 131)⟩,
  ⟨(some 133), (some (132, true)), .mov (.t 20)⟩,
  ⟨(some 134), (some (132, true)), .mov (.t 0)⟩,
  ⟨(some 135), (some (132, true)), .mkrow 1 1 [(.slice none 0 0)] [(0, (1, (.t 134)))]⟩,
  ⟨(some 136), (some (132, true)), .call f_law4_sameTxns [(.t 133), (.t 135)]⟩,
  ⟨(some 137), none, .pick (.t 132) (.t 136) (.c (.bool false))⟩,
  ⟨(some 138), none, .mov (.t 137)⟩,
  ⟨(some 139), (some (138, true)), .mov (.t 21)⟩,
  ⟨(some 140), (some (138, true)), .mov (.t 9)⟩,
  ⟨(some 141), (some (138, true)), .mov (.t 10)⟩,
  ⟨(some 142), (some (138, true)), .lenV (.t 141)⟩,
  ⟨(some 143), (some (138, true)), .bin .add 3 (.t 140) (.t 142)⟩,
  ⟨(some 144), (some (138, true)), .bin .eql 3 (.t 139) (.t 143)⟩,
  ⟨(some 145), none, .pick (.t 138) (.t 144) (.c (.bool false))⟩,
  ⟨(some 146), none, .mov (.t 145)⟩,
  ⟨(some 147), (some (146, true)), .mov (.t 22)⟩,
  ⟨(some 148), (some (146, true)), .mov (.t 10)⟩,
  ⟨(some 149), (some (146, true)), .lenV (.t 148)⟩,
  ⟨(some 150), (some (146, true)), .bin .eql 3 (.t 147) (.t 149)⟩,
  ⟨(some 151), none, .pick (.t 146) (.t 150) (.c (.bool false))⟩,
  ⟨(some 8), none, .mov (.t 151)⟩]
@[simp] def c_law4_LogBack : IFn := ⟨(.seq (.reg c_law4_LogBack_r0) (.seq (.seq (.reg c_law4_LogBack_r1) (.cond (.t 25) (.seq (.reg c_law4_LogBack_r2) .ret) .skip)) (.seq (.reg c_law4_LogBack_r3) (.seq (.reg c_law4_LogBack_r4) (.seq (.seq (.reg c_law4_LogBack_r5) (.cond (.t 37) (.seq (.reg c_law4_LogBack_r6) .ret) .skip)) (.seq (.reg c_law4_LogBack_r7) (.seq (.seq (.reg c_law4_LogBack_r8) (.cond (.t 52) (.seq (.reg c_law4_LogBack_r9) .ret) .skip)) (.seq (.seq (.reg c_law4_LogBack_r10) (.cond (.t 66) (.seq (.reg c_law4_LogBack_r11) .ret) .skip)) (.seq (.reg c_law4_LogBack_r12) (.seq (.reg c_law4_LogBack_r13) (.seq (.reg c_law4_LogBack_r14) (.seq (.reg c_law4_LogBack_r15) (.seq (.reg c_law4_LogBack_r16) .ret))))))))))))), 152, [.tmp 8]⟩
@[simp] def c_law4_LogForms_r0 : List Ir := [⟨(some 4), none, .mov (.c (.bool false))⟩]
@[simp] def c_law4_LogForms_r1 : List Ir := [⟨(some 25), none, .call f_law4_awake []⟩,
  ⟨(some 26), none, .un .not (.t 25)⟩]
@[simp] def c_law4_LogForms_r2 : List Ir := [⟨(some 4), none, .mov (.c (.bool false))⟩]
@[simp] def c_law4_LogForms_r3 : List Ir := [⟨(some 27), none, .mov (.t 1)⟩,
  ⟨(some 28), none, .bin .and 3 (.t 27) (.c (.int .i64 1023))⟩,
  ⟨(some 29), none, .bin .add 3 (.c (.int .i64 1)) (.t 28)⟩,
  ⟨(some 5), none, .mov (.t 29)⟩]
@[simp] def c_law4_LogForms_r4 : List Ir := [⟨(some 30), none, .mov (.t 5)⟩,
  ⟨(some 31), none, .un .neg (.t 30)⟩,
  ⟨(some 32), none, .build [(.int .i64 0), (.string ⟨#[]⟩)] [(0, (1, (.t 31)))]⟩,
  ⟨(some 33), none, .mkrow 2 1 [(.int .i64 0), (.string ⟨#[]⟩)] [(0, (2, (.t 32)))]⟩,
  ⟨(some 34), none, .mov (.t 5)⟩,
  ⟨(some 35), none, .bin .add 3 (.c (.int .i64 47)) (.t 34)⟩,
  ⟨(some 36), none, .build [(.int .i64 0), (.string ⟨#[]⟩)] [(0, (1, (.t 35)))]⟩,
  ⟨(some 37), none, .mkrow 2 1 [(.int .i64 0), (.string ⟨#[]⟩)] [(0, (2, (.t 36)))]⟩,
  ⟨(some 38), none, .build [(.int .i64 0), (.string ⟨#[]⟩)] [(0, (1, (.c (.int .i64 3))))]⟩,
  ⟨(some 39), none, .build [(.int .i64 0), (.string ⟨#[]⟩)] [(0, (1, (.c (.int .i64 3))))]⟩,
  ⟨(some 40), none, .mkrow 2 2 [(.int .i64 0), (.string ⟨#[]⟩), (.int .i64 0), (.string ⟨#[]⟩)] [(0, (2, (.t 38))), (2, (2, (.t 39)))]⟩,
  ⟨(some 41), none, .build [(.int .i64 0), (.string ⟨#[]⟩)] [(0, (1, (.c (.int .i64 3))))]⟩,
  ⟨(some 42), none, .build [(.int .i64 0), (.string ⟨#[]⟩)] [(0, (1, (.c (.int .i64 2))))]⟩,
  ⟨(some 43), none, .mkrow 2 2 [(.int .i64 0), (.string ⟨#[]⟩), (.int .i64 0), (.string ⟨#[]⟩)] [(0, (2, (.t 41))), (2, (2, (.t 42)))]⟩,
  ⟨(some 44), none, .mov (.t 5)⟩,
  ⟨(some 45), none, .bin .add 3 (.c (.int .i64 96)) (.t 44)⟩,
  ⟨(some 46), none, .mks 1 1 [(.int .u8 0)] (.t 45) (.t 45)⟩,
  ⟨(some 47), none, .b2s (.t 46)⟩,
  ⟨(some 48), none, .build [(.int .i64 0), (.string ⟨#[]⟩)] [(1, (1, (.t 47)))]⟩,
  ⟨(some 49), none, .mkrow 2 1 [(.int .i64 0), (.string ⟨#[]⟩)] [(0, (2, (.t 48)))]⟩,
  ⟨(some 50), none, .mks 2 24 [(.int .i64 0), (.string ⟨#[]⟩)] (.c (.int .i64 49)) (.c (.int .i64 49))⟩,
  ⟨(some 51), none, .mkrow 1 6 [(.slice none 0 0), (.slice none 0 0), (.slice none 0 0), (.slice none 0 0), (.slice none 0 0), (.slice none 0 0)] [(0, (1, (.t 33))), (1, (1, (.t 37))), (2, (1, (.t 40))), (3, (1, (.t 43))), (4, (1, (.t 49))), (5, (1, (.t 50)))]⟩,
  ⟨(some 6), none, .mov (.t 51)⟩]
@[simp] def c_law4_LogForms_r5 : List Ir := [⟨(some 53), none, .mov (.t 6)⟩,
  ⟨(some 54), none, .mov (.t 0)⟩,
  ⟨(some 55), none, .ii .u64 (.t 54)⟩,
  ⟨(some 56), none, .bin .rem 47 (.t 55) (.c (.int .u64 6))⟩,
  ⟨(some 57), none, .ii .i64 (.t 56)⟩,
  ⟨(some 58), none, .iadrS 1 (.t 53) (.t 57)⟩,
  ⟨(some 59), none, .ld (.t 58)⟩,
  ⟨(some 60), none, .call f_log_Make [(.t 59), (.c (.int .i64 1))]⟩,
  ⟨(some 52), none, .mov (.t 60)⟩,
  ⟨(some 61), none, .ext 0 (.t 52)⟩,
  ⟨(some 62), none, .ext 1 (.t 52)⟩,
  ⟨(some 7), none, .mov (.t 61)⟩,
  ⟨(some 8), none, .mov (.t 62)⟩]
@[simp] def c_law4_LogForms_r6 : List Ir := [⟨(some 64), none, .mov (.t 5)⟩,
  ⟨(some 65), none, .un .neg (.t 64)⟩,
  ⟨(some 66), none, .call f_log_Make [(.c (.slice none 0 0)), (.t 65)]⟩,
  ⟨(some 63), none, .mov (.t 66)⟩,
  ⟨(some 67), none, .ext 0 (.t 63)⟩,
  ⟨(some 68), none, .ext 1 (.t 63)⟩,
  ⟨(some 9), none, .mov (.t 67)⟩,
  ⟨(some 10), none, .mov (.t 68)⟩]
@[simp] def c_law4_LogForms_r7 : List Ir := [⟨(some 70), none, .mov (.t 5)⟩,
  ⟨(some 71), none, .bin .add 3 (.c (.int .i64 2147483647)) (.t 70)⟩,
  ⟨(some 72), none, .call f_log_Make [(.c (.slice none 0 0)), (.t 71)]⟩,
  ⟨(some 69), none, .mov (.t 72)⟩,
  ⟨(some 73), none, .ext 0 (.t 69)⟩,
  ⟨(some 74), none, .ext 1 (.t 69)⟩,
  ⟨(some 11), none, .mov (.t 73)⟩,
  ⟨(some 12), none, .mov (.t 74)⟩]
@[simp] def c_law4_LogForms_r8 : List Ir := [⟨(some 76), none, .build [(.int .i64 0), (.string ⟨#[]⟩)] [(0, (1, (.c (.int .i64 1))))]⟩,
  ⟨(some 77), none, .mkrow 2 1 [(.int .i64 0), (.string ⟨#[]⟩)] [(0, (2, (.t 76)))]⟩,
  ⟨(some 78), none, .call f_log_Make [(.t 77), (.c (.int .i64 2147483644))]⟩,
  ⟨(some 75), none, .mov (.t 78)⟩,
  ⟨(some 79), none, .ext 0 (.t 75)⟩,
  ⟨(some 80), none, .ext 1 (.t 75)⟩,
  ⟨(some 13), none, .mov (.t 79)⟩,
  ⟨(some 14), none, .mov (.t 80)⟩]
@[simp] def c_law4_LogForms_r9 : List Ir := [⟨(some 82), none, .mov (.t 5)⟩,
  ⟨(some 83), none, .un .neg (.t 82)⟩,
  ⟨(some 84), none, .call f_log_Scan [(.c (.slice none 0 0)), (.t 83)]⟩,
  ⟨(some 81), none, .mov (.t 84)⟩,
  ⟨(some 85), none, .ext 0 (.t 81)⟩,
  ⟨(some 86), none, .ext 1 (.t 81)⟩,
  ⟨(some 87), none, .ext 2 (.t 81)⟩,
  ⟨(some 88), none, .ext 3 (.t 81)⟩,
  ⟨(some 15), none, .mov (.t 85)⟩,
  ⟨(some 16), none, .mov (.t 86)⟩,
  ⟨(some 17), none, .mov (.t 87)⟩,
  ⟨(some 18), none, .mov (.t 88)⟩]
@[simp] def c_law4_LogForms_r10 : List Ir := [⟨(some 90), none, .mov (.t 5)⟩,
  ⟨(some 91), none, .bin .add 3 (.c (.int .i64 200)) (.t 90)⟩,
  ⟨(some 92), none, .mks 1 16 [(.string ⟨#[]⟩)] (.t 91) (.t 91)⟩,
  ⟨(some 93), none, .call f_log_Scan [(.t 92), (.c (.int .i64 1))]⟩,
  ⟨(some 89), none, .mov (.t 93)⟩,
  ⟨(some 94), none, .ext 0 (.t 89)⟩,
  ⟨(some 95), none, .ext 1 (.t 89)⟩,
  ⟨(some 96), none, .ext 2 (.t 89)⟩,
  ⟨(some 97), none, .ext 3 (.t 89)⟩,
  ⟨(some 19), none, .mov (.t 94)⟩,
  ⟨(some 20), none, .mov (.t 95)⟩,
  ⟨(some 21), none, .mov (.t 96)⟩,
  ⟨(some 22), none, .mov (.t 97)⟩]
@[simp] def c_law4_LogForms_r11 : List Ir := [⟨(some 99), none, .call f_log_Make [(.c (.slice none 0 0)), (.c (.int .i64 5))]⟩,
  ⟨(some 98), none, .mov (.t 99)⟩,
  ⟨(some 100), none, .ext 0 (.t 98)⟩,
  ⟨(some 101), none, .ext 1 (.t 98)⟩,
  ⟨(some 23), none, .mov (.t 100)⟩,
  ⟨(some 24), none, .mov (.t 101)⟩]
@[simp] def c_law4_LogForms_r12 : List Ir := [⟨(some 102), none, .mov (.t 7)⟩,
  ⟨(some 103), none, .lenV (.t 102)⟩,
  ⟨(some 104), none, .bin .eql 3 (.t 103) (.c (.int .i64 0))⟩,
  ⟨(some 105), none, .mov (.t 104)⟩,
  ⟨(some 106), (some (105, true)), .mov (.t 8)⟩,
  ⟨(some 107), (some (105, true)), .call f_law0_Num [(.t 106)]⟩,
  ⟨(some 108), (some (105, true)), .bin .eql 3 (.t 107) (.c (.int .i64 400))⟩,
  ⟨(some 109), none, .pick (.t 105) (.t 108) (.c (.bool false))⟩,
  ⟨(some 110), none, .mov (.t 109)⟩,
  ⟨(some 111), (some (110, true)), .mov (.t 10)⟩,
  ⟨(some 112), (some (110, true)), .call f_law0_Num [(.t 111)]⟩,
  ⟨(some 113), (some (110, true)), .bin .eql 3 (.t 112) (.c (.int .i64 400))⟩,
  ⟨(some 114), none, .pick (.t 110) (.t 113) (.c (.bool false))⟩,
  ⟨(some 115), none, .mov (.t 114)⟩,
  ⟨(some 116), (some (115, true)), .mov (.t 12)⟩,
  ⟨(some 117), (some (115, true)), .call f_law0_Num [(.t 116)]⟩,
  ⟨(some 118), (some (115, true)), .bin .eql 3 (.t 117) (.c (.int .i64 400))⟩,
  ⟨(some 119), none, .pick (.t 115) (.t 118) (.c (.bool false))⟩,
  ⟨(some 120), none, .mov (.t 119)⟩,
  ⟨(some 121), (some (120, true)), .mov (.t 14)⟩,
  ⟨(some 122), (some (120, true)), .call f_law0_Num [(.t 121)]⟩,
  ⟨(some 123), (some (120, true)), .bin .eql 3 (.t 122) (.c (.int .i64 400))⟩,
  ⟨(some 124), none, .pick (.t 120) (.t 123) (.c (.bool false))⟩,
  ⟨(some 125), none, .mov (.t 124)⟩,
  ⟨(some 126), (some (125, true)), .mov (.t 18)⟩,
  ⟨(some 127), (some (125, true)), .call f_law0_Num [(.t 126)]⟩,
  ⟨(some 128), (some (125, true)), .bin .eql 3 (.t 127) (.c (.int .i64 400))⟩,
  ⟨(some 129), none, .pick (.t 125) (.t 128) (.c (.bool false))⟩,
  ⟨(some 130), none, .mov (.t 129)⟩,
  ⟨(some 131), (some (130, true)), .mov (.t 22)⟩,
  ⟨(some 132), (some (130, true)), .call f_law0_Num [(.t 131)]⟩,
  ⟨(some 133), (some (130, true)), .bin .eql 3 (.t 132) (.c (.int .i64 400))⟩,
  ⟨(some 134), none, .pick (.t 130) (.t 133) (.c (.bool false))⟩,
  ⟨(some 135), none, .mov (.t 134)⟩,
  ⟨(some 136), (some (135, true)), .mov (.t 23)⟩,
  ⟨(some 137), (some (135, true)), .build [(.int .i64 0), (.int .i64 0), (.int .i64 0), (.string ⟨#[]⟩)] [(0, (1, (.c (.int .i64 5)))), (2, (1, (.c (.int .i64 4))))]⟩,
  ⟨(some 138), (some (135, true)), .mkrow 4 1 [(.int .i64 0), (.int .i64 0), (.int .i64 0), (.string ⟨#[]⟩)] [(0, (4, (.t 137)))]⟩,
  ⟨(some 139), (some (135, true)), .call f_law0_SameRecords [(.t 136), (.t 138)]⟩,
  ⟨(some 140), none, .pick (.t 135) (.t 139) (.c (.bool false))⟩,
  ⟨(some 141), none, .mov (.t 140)⟩,
  ⟨(some 142), (some (141, true)), .mov (.t 24)⟩,
  ⟨(some 143), (some (141, true)), .call f_law0_Num [(.t 142)]⟩,
  ⟨(some 144), (some (141, true)), .bin .eql 3 (.t 143) (.c (.int .i64 0))⟩,
  ⟨(some 145), none, .pick (.t 141) (.t 144) (.c (.bool false))⟩,
  ⟨(some 4), none, .mov (.t 145)⟩]
@[simp] def c_law4_LogForms : IFn := ⟨(.seq (.reg c_law4_LogForms_r0) (.seq (.seq (.reg c_law4_LogForms_r1) (.cond (.t 26) (.seq (.reg c_law4_LogForms_r2) .ret) .skip)) (.seq (.reg c_law4_LogForms_r3) (.seq (.regd c_law4_LogForms_r4 []) (.seq (.reg c_law4_LogForms_r5) (.seq (.reg c_law4_LogForms_r6) (.seq (.reg c_law4_LogForms_r7) (.seq (.reg c_law4_LogForms_r8) (.seq (.reg c_law4_LogForms_r9) (.seq (.reg c_law4_LogForms_r10) (.seq (.reg c_law4_LogForms_r11) (.seq (.reg c_law4_LogForms_r12) .ret)))))))))))), 146, [.tmp 4]⟩
@[simp] def c_law4_LogParts_r0 : List Ir := [⟨(some 4), none, .mov (.c (.bool false))⟩]
@[simp] def c_law4_LogParts_r1 : List Ir := [⟨(some 13), none, .call f_law4_awake []⟩,
  ⟨(some 14), none, .un .not (.t 13)⟩]
@[simp] def c_law4_LogParts_r2 : List Ir := [⟨(some 4), none, .mov (.c (.bool false))⟩]
@[simp] def c_law4_LogParts_r3 : List Ir := [⟨(some 15), none, .mov (.t 1)⟩,
  ⟨(some 16), none, .bin .and 3 (.t 15) (.c (.int .i64 65535))⟩,
  ⟨(some 17), none, .bin .add 3 (.c (.int .i64 1)) (.t 16)⟩,
  ⟨(some 5), none, .mov (.t 17)⟩]
@[simp] def c_law4_LogParts_r4 : List Ir := [⟨(some 19), none, .mov (.t 0)⟩,
  ⟨(some 20), none, .mov (.t 5)⟩,
  ⟨(some 21), none, .call f_log_Make [(.t 19), (.t 20)]⟩,
  ⟨(some 18), none, .mov (.t 21)⟩,
  ⟨(some 22), none, .ext 0 (.t 18)⟩,
  ⟨(some 23), none, .ext 1 (.t 18)⟩,
  ⟨(some 6), none, .mov (.t 22)⟩,
  ⟨(some 7), none, .mov (.t 23)⟩]
@[simp] def c_law4_LogParts_r5 : List Ir := [⟨(some 24), none, .mov (.t 7)⟩,
  ⟨(some 25), none, .call f_law0_Num [(.t 24)]⟩,
  ⟨(some 26), none, .bin .neq 3 (.t 25) (.c (.int .i64 0))⟩]
@[simp] def c_law4_LogParts_r6 : List Ir := [⟨(some 27), none, .mov (.t 6)⟩,
  ⟨(some 28), none, .lenV (.t 27)⟩,
  ⟨(some 29), none, .bin .eql 3 (.t 28) (.c (.int .i64 0))⟩,
  ⟨(some 4), none, .mov (.t 29)⟩]
@[simp] def c_law4_LogParts_r7 : List Ir := [⟨(some 30), none, .mov (.t 6)⟩,
  ⟨(some 31), none, .lenV (.t 30)⟩,
  ⟨(some 32), none, .mov (.t 0)⟩,
  ⟨(some 33), none, .lenV (.t 32)⟩,
  ⟨(some 34), none, .bin .mul 3 (.c (.int .i64 4)) (.t 33)⟩,
  ⟨(some 35), none, .bin .add 3 (.t 34) (.c (.int .i64 1))⟩,
  ⟨(some 36), none, .bin .neq 3 (.t 31) (.t 35)⟩]
@[simp] def c_law4_LogParts_r8 : List Ir := [⟨(some 4), none, .mov (.c (.bool false))⟩]
@[simp] def c_law4_LogParts_r9 : List Ir := [⟨(some 8), none, .mov (.c (.int .i64 0))⟩]
@[simp] def c_law4_LogParts_r10 : List Ir := [⟨(some 37), none, .mov (.t 8)⟩,
  ⟨(some 38), none, .mov (.t 6)⟩,
  ⟨(some 39), none, .lenV (.t 38)⟩,
  ⟨(some 40), none, .bin .lss 3 (.t 37) (.t 39)⟩]
@[simp] def c_law4_LogParts_r11 : List Ir := [⟨(some 43), none, .mov (.t 6)⟩,
  ⟨(some 44), none, .mov (.t 8)⟩,
  ⟨(some 45), none, .iadrS 4 (.t 43) (.t 44)⟩,
  ⟨(some 46), none, .fadr 0 (.t 45)⟩,
  ⟨(some 47), none, .ld (.t 46)⟩,
  ⟨(some 48), none, .mov (.t 5)⟩,
  ⟨(some 49), none, .mov (.t 8)⟩,
  ⟨(some 50), none, .bin .add 3 (.t 48) (.t 49)⟩,
  ⟨(some 51), none, .bin .neq 3 (.t 47) (.t 50)⟩]
@[simp] def c_law4_LogParts_r12 : List Ir := [⟨(some 4), none, .mov (.c (.bool false))⟩]
@[simp] def c_law4_LogParts_r13 : List Ir := [⟨(some 41), none, .mov (.t 8)⟩,
  ⟨(some 42), none, .bin .add 3 (.t 41) (.c (.int .i64 1))⟩,
  ⟨(some 8), none, .mov (.t 42)⟩]
def c_law4_LogParts_l14 : IC := (.seq (.seq (.reg c_law4_LogParts_r10) (.cond (.t 40) .skip (.exit 0))) (.seq (.block 1 (.seq (.reg c_law4_LogParts_r11) (.cond (.t 51) (.seq (.reg c_law4_LogParts_r12) .ret) .skip))) (.reg c_law4_LogParts_r13)))
@[simp] def c_law4_LogParts_r15 : List Ir := [⟨(some 9), none, .mov (.c (.int .i64 0))⟩]
@[simp] def c_law4_LogParts_r16 : List Ir := [⟨(some 52), none, .mov (.t 9)⟩,
  ⟨(some 53), none, .mov (.t 0)⟩,
  ⟨(some 54), none, .lenV (.t 53)⟩,
  ⟨(some 55), none, .bin .lss 3 (.t 52) (.t 54)⟩]
@[simp] def c_law4_LogParts_r17 : List Ir := [⟨(some 10), none, .mov (.c (.string ⟨#[]⟩))⟩]
@[simp] def c_law4_LogParts_r18 : List Ir := [⟨(some 11), none, .mov (.c (.int .i64 0))⟩]
@[simp] def c_law4_LogParts_r19 : List Ir := [⟨(some 58), none, .mov (.t 11)⟩,
  ⟨(some 59), none, .bin .lss 3 (.t 58) (.c (.int .i64 4))⟩]
@[simp] def c_law4_LogParts_r20 : List Ir := [⟨(some 62), none, .mov (.t 6)⟩,
  ⟨(some 63), none, .mov (.t 9)⟩,
  ⟨(some 64), none, .bin .mul 3 (.c (.int .i64 4)) (.t 63)⟩,
  ⟨(some 65), none, .mov (.t 11)⟩,
  ⟨(some 66), none, .bin .add 3 (.t 64) (.t 65)⟩,
  ⟨(some 67), none, .iadrS 4 (.t 62) (.t 66)⟩,
  ⟨(some 68), none, .ldn 4 (.t 67)⟩,
  ⟨(some 12), none, .new [(.int .i64 0), (.int .i64 0), (.int .i64 0), (.string ⟨#[]⟩)]⟩,
  ⟨none, none, .st 4 (.t 12) (.t 68)⟩]
@[simp] def c_law4_LogParts_r21 : List Ir := [⟨(some 69), none, .fadr 1 (.t 12)⟩,
  ⟨(some 70), none, .ld (.t 69)⟩,
  ⟨(some 71), none, .mov (.t 0)⟩,
  ⟨(some 72), none, .mov (.t 9)⟩,
  ⟨(some 73), none, .iadrS 2 (.t 71) (.t 72)⟩,
  ⟨(some 74), none, .fadr 0 (.t 73)⟩,
  ⟨(some 75), none, .ld (.t 74)⟩,
  ⟨(some 76), none, .bin .neq 3 (.t 70) (.t 75)⟩,
  ⟨(some 77), none, .mov (.t 76)⟩,
  ⟨(some 78), (some (77, false)), .fadr 2 (.t 12)⟩,
  ⟨(some 79), (some (77, false)), .ld (.t 78)⟩,
  ⟨(some 80), (some (77, false)), .mov (.t 11)⟩,
  ⟨(some 81), (some (77, false)), .bin .neq 3 (.t 79) (.t 80)⟩,
  ⟨(some 82), none, .pick (.t 77) (.c (.bool true)) (.t 81)⟩]
@[simp] def c_law4_LogParts_r22 : List Ir := [⟨(some 4), none, .mov (.c (.bool false))⟩]
@[simp] def c_law4_LogParts_r23 : List Ir := [⟨(some 83), none, .mov (.t 10)⟩,
  ⟨(some 84), none, .fadr 3 (.t 12)⟩,
  ⟨(some 85), none, .ld (.t 84)⟩,
  ⟨(some 86), none, .bin .add 9 (.t 83) (.t 85)⟩,
  ⟨(some 10), none, .mov (.t 86)⟩]
@[simp] def c_law4_LogParts_r24 : List Ir := [⟨(some 60), none, .mov (.t 11)⟩,
  ⟨(some 61), none, .bin .add 3 (.t 60) (.c (.int .i64 1))⟩,
  ⟨(some 11), none, .mov (.t 61)⟩]
def c_law4_LogParts_l25 : IC := (.seq (.seq (.reg c_law4_LogParts_r19) (.cond (.t 59) .skip (.exit 4))) (.seq (.block 5 (.seq (.reg c_law4_LogParts_r20) (.seq (.seq (.regd c_law4_LogParts_r21 []) (.cond (.t 82) (.seq (.reg c_law4_LogParts_r22) .ret) .skip)) (.reg c_law4_LogParts_r23)))) (.reg c_law4_LogParts_r24)))
@[simp] def c_law4_LogParts_r26 : List Ir := [⟨(some 87), none, .mov (.t 10)⟩,
  ⟨(some 88), none, .mov (.t 0)⟩,
  ⟨(some 89), none, .mov (.t 9)⟩,
  ⟨(some 90), none, .iadrS 2 (.t 88) (.t 89)⟩,
  ⟨(some 91), none, .fadr 1 (.t 90)⟩,
  ⟨(some 92), none, .ld (.t 91)⟩,
  ⟨(some 93), none, .bin .neq 9 (.t 87) (.t 92)⟩]
@[simp] def c_law4_LogParts_r27 : List Ir := [⟨(some 4), none, .mov (.c (.bool false))⟩]
@[simp] def c_law4_LogParts_r28 : List Ir := [⟨(some 56), none, .mov (.t 9)⟩,
  ⟨(some 57), none, .bin .add 3 (.t 56) (.c (.int .i64 1))⟩,
  ⟨(some 9), none, .mov (.t 57)⟩]
def c_law4_LogParts_l29 : IC := (.seq (.seq (.reg c_law4_LogParts_r16) (.cond (.t 55) .skip (.exit 2))) (.seq (.block 3 (.seq (.reg c_law4_LogParts_r17) (.seq (.seq (.reg c_law4_LogParts_r18) (.block 4 (.loop c_law4_LogParts_l25))) (.seq (.reg c_law4_LogParts_r26) (.cond (.t 93) (.seq (.reg c_law4_LogParts_r27) .ret) .skip))))) (.reg c_law4_LogParts_r28)))
@[simp] def c_law4_LogParts_r30 : List Ir := [⟨(some 94), none, .mov (.t 6)⟩,
  ⟨(some 95), none, .mov (.t 6)⟩,
  ⟨(some 96), none, .lenV (.t 95)⟩,
  ⟨(some 97), none, .bin .sub 3 (.t 96) (.c (.int .i64 1))⟩,
  ⟨(some 98), none, .iadrS 4 (.t 94) (.t 97)⟩,
  ⟨(some 99), none, .fadr 2 (.t 98)⟩,
  ⟨(some 100), none, .ld (.t 99)⟩,
  ⟨(some 101), none, .bin .eql 3 (.t 100) (.c (.int .i64 4))⟩,
  ⟨(some 4), none, .mov (.t 101)⟩]
@[simp] def c_law4_LogParts : IFn := ⟨(.seq (.reg c_law4_LogParts_r0) (.seq (.seq (.reg c_law4_LogParts_r1) (.cond (.t 14) (.seq (.reg c_law4_LogParts_r2) .ret) .skip)) (.seq (.reg c_law4_LogParts_r3) (.seq (.reg c_law4_LogParts_r4) (.seq (.seq (.reg c_law4_LogParts_r5) (.cond (.t 26) (.seq (.reg c_law4_LogParts_r6) .ret) .skip)) (.seq (.seq (.reg c_law4_LogParts_r7) (.cond (.t 36) (.seq (.reg c_law4_LogParts_r8) .ret) .skip)) (.seq (.seq (.reg c_law4_LogParts_r9) (.block 0 (.loop c_law4_LogParts_l14))) (.seq (.seq (.reg c_law4_LogParts_r15) (.block 2 (.loop c_law4_LogParts_l29))) (.seq (.reg c_law4_LogParts_r30) .ret))))))))), 102, [.tmp 4]⟩
@[simp] def c_law4_LogStops_r0 : List Ir := [⟨(some 8), none, .mov (.c (.bool false))⟩]
@[simp] def c_law4_LogStops_r1 : List Ir := [⟨(some 21), none, .call f_law4_awake []⟩,
  ⟨(some 22), none, .un .not (.t 21)⟩]
@[simp] def c_law4_LogStops_r2 : List Ir := [⟨(some 8), none, .mov (.c (.bool false))⟩]
@[simp] def c_law4_LogStops_r3 : List Ir := [⟨(some 24), none, .mov (.t 0)⟩,
  ⟨(some 25), none, .call f_log_Make [(.t 24), (.c (.int .i64 10))]⟩,
  ⟨(some 23), none, .mov (.t 25)⟩,
  ⟨(some 26), none, .ext 0 (.t 23)⟩,
  ⟨(some 27), none, .ext 1 (.t 23)⟩,
  ⟨(some 9), none, .mov (.t 26)⟩,
  ⟨(some 10), none, .mov (.t 27)⟩]
@[simp] def c_law4_LogStops_r4 : List Ir := [⟨(some 29), none, .mov (.t 1)⟩,
  ⟨(some 30), none, .mov (.t 9)⟩,
  ⟨(some 31), none, .lenV (.t 30)⟩,
  ⟨(some 32), none, .bin .add 3 (.c (.int .i64 10)) (.t 31)⟩,
  ⟨(some 33), none, .call f_log_Make [(.t 29), (.t 32)]⟩,
  ⟨(some 28), none, .mov (.t 33)⟩,
  ⟨(some 34), none, .ext 0 (.t 28)⟩,
  ⟨(some 35), none, .ext 1 (.t 28)⟩,
  ⟨(some 11), none, .mov (.t 34)⟩,
  ⟨(some 12), none, .mov (.t 35)⟩]
@[simp] def c_law4_LogStops_r5 : List Ir := [⟨(some 36), none, .mov (.t 10)⟩,
  ⟨(some 37), none, .call f_law0_Num [(.t 36)]⟩,
  ⟨(some 38), none, .bin .neq 3 (.t 37) (.c (.int .i64 0))⟩,
  ⟨(some 39), none, .mov (.t 38)⟩,
  ⟨(some 40), (some (39, false)), .mov (.t 12)⟩,
  ⟨(some 41), (some (39, false)), .call f_law0_Num [(.t 40)]⟩,
  ⟨(some 42), (some (39, false)), .bin .neq 3 (.t 41) (.c (.int .i64 0))⟩,
  ⟨(some 43), none, .pick (.t 39) (.c (.bool true)) (.t 42)⟩,
  ⟨(some 44), none, .mov (.t 43)⟩,
  ⟨(some 45), (some (44, false)), .mov (.t 9)⟩,
  ⟨(some 46), (some (44, false)), .lenV (.t 45)⟩,
  ⟨(some 47), (some (44, false)), .bin .lss 3 (.t 46) (.c (.int .i64 1))⟩,
  ⟨(some 48), none, .pick (.t 44) (.c (.bool true)) (.t 47)⟩,
  ⟨(some 49), none, .mov (.t 48)⟩,
  ⟨(some 50), (some (49, false)), .mov (.t 11)⟩,
  ⟨(some 51), (some (49, false)), .lenV (.t 50)⟩,
  ⟨(some 52), (some (49, false)), .bin .lss 3 (.t 51) (.c (.int .i64 1))⟩,
  ⟨(some 53), none, .pick (.t 49) (.c (.bool true)) (.t 52)⟩,
  ⟨(some 54), none, .mov (.t 53)⟩,
  ⟨(some 55), (some (54, false)), .mov (.t 9)⟩,
  ⟨(some 56), (some (54, false)), .lenV (.t 55)⟩,
  ⟨(some 57), (some (54, false)), .mov (.t 11)⟩,
  ⟨(some 58), (some (54, false)), .lenV (.t 57)⟩,
  ⟨(some 59), (some (54, false)), .bin .add 3 (.t 56) (.t 58)⟩,
  ⟨(some 60), (some (54, false)), .bin .gtr 3 (.t 59) (.c (.int .i64 200))⟩,
  ⟨(some 61), none, .pick (.t 54) (.c (.bool true)) (.t 60)⟩]
@[simp] def c_law4_LogStops_r6 : List Ir := [⟨(some 8), none, .mov (.c (.bool true))⟩]
@[simp] def c_law4_LogStops_r7 : List Ir := [⟨(some 62), none, .mov (.t 9)⟩,
  ⟨(some 63), none, .call f_law4_texts [(.t 62)]⟩,
  ⟨(some 64), none, .mov (.t 11)⟩,
  ⟨(some 65), none, .call f_law4_texts [(.t 64)]⟩,
  ⟨(some 66), none, .app 1 16 (.t 63) (.t 65)⟩,
  ⟨(some 13), none, .mov (.t 66)⟩]
@[simp] def c_law4_LogStops_r8 : List Ir := [⟨(some 67), none, .mov (.t 2)⟩,
  ⟨(some 68), none, .ii .u64 (.t 67)⟩,
  ⟨(some 69), none, .mov (.t 13)⟩,
  ⟨(some 70), none, .lenV (.t 69)⟩,
  ⟨(some 71), none, .ii .u64 (.t 70)⟩,
  ⟨(some 72), none, .bin .rem 47 (.t 68) (.t 71)⟩,
  ⟨(some 73), none, .ii .i64 (.t 72)⟩,
  ⟨(some 14), none, .mov (.t 73)⟩]
@[simp] def c_law4_LogStops_r9 : List Ir := [⟨(some 74), none, .mov (.t 3)⟩]
@[simp] def c_law4_LogStops_r10 : List Ir := [⟨(some 75), none, .mov (.t 13)⟩,
  ⟨(some 76), none, .mov (.t 14)⟩,
  ⟨(some 77), none, .iadrS 1 (.t 75) (.t 76)⟩,
  ⟨none, none, .st 1 (.t 77) (.c (.string ⟨#[]⟩))⟩]
@[simp] def c_law4_LogStops_r11 : List Ir := [⟨(some 79), none, .mov (.t 14)⟩,
  ⟨(some 80), none, .bin .add 3 (.c (.int .i64 9)) (.t 79)⟩,
  ⟨(some 81), none, .build [(.int .i64 0), (.int .i64 0), (.int .i64 0), (.string ⟨#[]⟩)] [(0, (1, (.t 80))), (1, (1, (.c (.int .i64 1))))]⟩,
  ⟨(some 82), none, .call f_ref1_PutRecord [(.t 81)]⟩,
  ⟨(some 78), none, .mov (.t 82)⟩,
  ⟨(some 83), none, .ext 0 (.t 78)⟩,
  ⟨(some 84), none, .ext 1 (.t 78)⟩,
  ⟨(some 15), none, .mov (.t 83)⟩,
  ⟨(some 16), none, .mov (.t 84)⟩]
@[simp] def c_law4_LogStops_r12 : List Ir := [⟨(some 85), none, .mov (.t 13)⟩,
  ⟨(some 86), none, .mov (.t 14)⟩,
  ⟨(some 87), none, .mov (.t 15)⟩,
  ⟨(some 88), none, .iadrS 1 (.t 85) (.t 86)⟩,
  ⟨none, none, .st 1 (.t 88) (.t 87)⟩]
@[simp] def c_law4_LogStops_r13 : List Ir := [⟨(some 90), none, .mov (.t 13)⟩,
  ⟨(some 91), none, .call f_log_Scan [(.t 90), (.c (.int .i64 10))]⟩,
  ⟨(some 89), none, .mov (.t 91)⟩,
  ⟨(some 92), none, .ext 0 (.t 89)⟩,
  ⟨(some 93), none, .ext 1 (.t 89)⟩,
  ⟨(some 94), none, .ext 2 (.t 89)⟩,
  ⟨(some 95), none, .ext 3 (.t 89)⟩,
  ⟨(some 17), none, .mov (.t 92)⟩,
  ⟨(some 18), none, .mov (.t 93)⟩,
  ⟨(some 19), none, .mov (.t 94)⟩,
  ⟨(some 20), none, .mov (.t 95)⟩]
@[simp] def c_law4_LogStops_r14 : List Ir := [⟨(some 96), none, .mov (.t 20)⟩,
  ⟨(some 97), none, .call f_law0_Num [(.t 96)]⟩,
  ⟨(some 98), none, .bin .neq 3 (.t 97) (.c (.int .i64 0))⟩]
@[simp] def c_law4_LogStops_r15 : List Ir := [⟨(some 8), none, .mov (.c (.bool false))⟩]
@[simp] def c_law4_LogStops_r16 : List Ir := [⟨(some 99), none, .mov (.t 14)⟩,
  ⟨(some 100), none, .mov (.t 9)⟩,
  ⟨(some 101), none, .lenV (.t 100)⟩,
  ⟨(some 102), none, .bin .lss 3 (.t 99) (.t 101)⟩]
@[simp] def c_law4_LogStops_r17 : List Ir := [⟨(some 103), none, .mov (.t 17)⟩,
  ⟨(some 104), none, .lenV (.t 103)⟩,
  ⟨(some 105), none, .bin .eql 3 (.t 104) (.c (.int .i64 0))⟩,
  ⟨(some 106), none, .mov (.t 105)⟩,
  ⟨(some 107), (some (106, true)), .mov (.t 18)⟩,
  ⟨(some 108), (some (106, true)), .bin .eql 3 (.t 107) (.c (.int .i64 10))⟩,
  ⟨(some 109), none, .pick (.t 106) (.t 108) (.c (.bool false))⟩,
  ⟨(some 110), none, .mov (.t 109)⟩,
  ⟨(some 111), (some (110, true)), .mov (.t 19)⟩,
  ⟨(some 112), (some (110, true)), .bin .eql 3 (.t 111) (.c (.int .i64 0))⟩,
  ⟨(some 113), none, .pick (.t 110) (.t 112) (.c (.bool false))⟩,
  ⟨(some 8), none, .mov (.t 113)⟩]
@[simp] def c_law4_LogStops_r18 : List Ir := [⟨(some 114), none, .mov (.t 17)⟩,
  ⟨(some 115), none, .mov (.t 0)⟩,
  ⟨(some 116), none, .mkrow 1 1 [(.slice none 0 0)] [(0, (1, (.t 115)))]⟩,
  ⟨(some 117), none, .call f_law4_sameTxns [(.t 114), (.t 116)]⟩,
  ⟨(some 118), none, .mov (.t 117)⟩,
  ⟨(some 119), (some (118, true)), .mov (.t 18)⟩,
  ⟨(some 120), (some (118, true)), .mov (.t 9)⟩,
  ⟨(some 121), (some (118, true)), .lenV (.t 120)⟩,
  ⟨(some 122), (some (118, true)), .bin .add 3 (.c (.int .i64 10)) (.t 121)⟩,
  ⟨(some 123), (some (118, true)), .bin .eql 3 (.t 119) (.t 122)⟩,
  ⟨(some 124), none, .pick (.t 118) (.t 123) (.c (.bool false))⟩,
  ⟨(some 125), none, .mov (.t 124)⟩,
  ⟨(some 126), (some (125, true)), .mov (.t 19)⟩,
  ⟨(some 127), (some (125, true)), .mov (.t 9)⟩,
  ⟨(some 128), (some (125, true)), .lenV (.t 127)⟩,
  ⟨(some 129), (some (125, true)), .bin .eql 3 (.t 126) (.t 128)⟩,
  ⟨(some 130), none, .pick (.t 125) (.t 129) (.c (.bool false))⟩,
  ⟨(some 8), none, .mov (.t 130)⟩]
@[simp] def c_law4_LogStops : IFn := ⟨(.seq (.reg c_law4_LogStops_r0) (.seq (.seq (.reg c_law4_LogStops_r1) (.cond (.t 22) (.seq (.reg c_law4_LogStops_r2) .ret) .skip)) (.seq (.reg c_law4_LogStops_r3) (.seq (.reg c_law4_LogStops_r4) (.seq (.seq (.reg c_law4_LogStops_r5) (.cond (.t 61) (.seq (.reg c_law4_LogStops_r6) .ret) .skip)) (.seq (.reg c_law4_LogStops_r7) (.seq (.reg c_law4_LogStops_r8) (.seq (.seq (.reg c_law4_LogStops_r9) (.cond (.t 74) (.reg c_law4_LogStops_r10) (.seq (.reg c_law4_LogStops_r11) (.reg c_law4_LogStops_r12)))) (.seq (.reg c_law4_LogStops_r13) (.seq (.seq (.reg c_law4_LogStops_r14) (.cond (.t 98) (.seq (.reg c_law4_LogStops_r15) .ret) .skip)) (.seq (.seq (.reg c_law4_LogStops_r16) (.cond (.t 102) (.seq (.reg c_law4_LogStops_r17) .ret) .skip)) (.seq (.reg c_law4_LogStops_r18) .ret)))))))))))), 131, [.tmp 8]⟩
@[simp] def c_law4_LogEmpty_r0 : List Ir := [⟨(some 6), none, .mov (.c (.bool false))⟩]
@[simp] def c_law4_LogEmpty_r1 : List Ir := [⟨(some 18), none, .call f_law4_awake []⟩,
  ⟨(some 19), none, .un .not (.t 18)⟩]
@[simp] def c_law4_LogEmpty_r2 : List Ir := [⟨(some 6), none, .mov (.c (.bool false))⟩]
@[simp] def c_law4_LogEmpty_r3 : List Ir := [⟨(some 20), none, .mov (.t 0)⟩,
  ⟨(some 21), none, .bin .and 3 (.t 20) (.c (.int .i64 7))⟩,
  ⟨(some 7), none, .mov (.t 21)⟩]
@[simp] def c_law4_LogEmpty_r4 : List Ir := [⟨(some 8), none, .mov (.c (.slice none 0 0))⟩]
@[simp] def c_law4_LogEmpty_r5 : List Ir := [⟨(some 9), none, .mov (.c (.int .i64 0))⟩]
@[simp] def c_law4_LogEmpty_r6 : List Ir := [⟨(some 22), none, .mov (.t 9)⟩,
  ⟨(some 23), none, .mov (.t 7)⟩,
  ⟨(some 24), none, .bin .lss 3 (.t 22) (.t 23)⟩]
@[simp] def c_law4_LogEmpty_r7 : List Ir := [⟨(some 28), none, .mov (.t 9)⟩,
  ⟨(some 29), none, .bin .add 3 (.c (.int .i64 1)) (.t 28)⟩,
  ⟨(some 30), none, .call f_log_Make [(.c (.slice none 0 0)), (.t 29)]⟩,
  ⟨(some 27), none, .mov (.t 30)⟩,
  ⟨(some 31), none, .ext 0 (.t 27)⟩,
  ⟨(some 32), none, .ext 1 (.t 27)⟩,
  ⟨(some 10), none, .mov (.t 31)⟩,
  ⟨(some 11), none, .mov (.t 32)⟩]
@[simp] def c_law4_LogEmpty_r8 : List Ir := [⟨(some 33), none, .mov (.t 11)⟩,
  ⟨(some 34), none, .call f_law0_Num [(.t 33)]⟩,
  ⟨(some 35), none, .bin .neq 3 (.t 34) (.c (.int .i64 0))⟩]
@[simp] def c_law4_LogEmpty_r9 : List Ir := [⟨(some 6), none, .mov (.c (.bool false))⟩]
@[simp] def c_law4_LogEmpty_r10 : List Ir := [⟨(some 36), none, .mov (.t 8)⟩,
  ⟨(some 37), none, .mov (.t 10)⟩,
  ⟨(some 38), none, .call f_law4_texts [(.t 37)]⟩,
  ⟨(some 39), none, .app 1 16 (.t 36) (.t 38)⟩,
  ⟨(some 8), none, .mov (.t 39)⟩]
@[simp] def c_law4_LogEmpty_r11 : List Ir := [⟨(some 25), none, .mov (.t 9)⟩,
  ⟨(some 26), none, .bin .add 3 (.t 25) (.c (.int .i64 1))⟩,
  ⟨(some 9), none, .mov (.t 26)⟩]
def c_law4_LogEmpty_l12 : IC := (.seq (.seq (.reg c_law4_LogEmpty_r6) (.cond (.t 24) .skip (.exit 0))) (.seq (.block 1 (.seq (.reg c_law4_LogEmpty_r7) (.seq (.seq (.reg c_law4_LogEmpty_r8) (.cond (.t 35) (.seq (.reg c_law4_LogEmpty_r9) .ret) .skip)) (.reg c_law4_LogEmpty_r10)))) (.reg c_law4_LogEmpty_r11)))
@[simp] def c_law4_LogEmpty_r13 : List Ir := [⟨(some 41), none, .mov (.t 1)⟩,
  ⟨(some 42), none, .mov (.t 7)⟩,
  ⟨(some 43), none, .bin .add 3 (.c (.int .i64 1)) (.t 42)⟩,
  ⟨(some 44), none, .call f_log_Make [(.t 41), (.t 43)]⟩,
  ⟨(some 40), none, .mov (.t 44)⟩,
  ⟨(some 45), none, .ext 0 (.t 40)⟩,
  ⟨(some 46), none, .ext 1 (.t 40)⟩,
  ⟨(some 12), none, .mov (.t 45)⟩,
  ⟨(some 13), none, .mov (.t 46)⟩]
@[simp] def c_law4_LogEmpty_r14 : List Ir := [⟨(some 47), none, .mov (.t 13)⟩,
  ⟨(some 48), none, .call f_law0_Num [(.t 47)]⟩,
  ⟨(some 49), none, .bin .neq 3 (.t 48) (.c (.int .i64 0))⟩]
@[simp] def c_law4_LogEmpty_r15 : List Ir := [⟨(some 50), none, .mov (.t 12)⟩,
  ⟨(some 51), none, .lenV (.t 50)⟩,
  ⟨(some 52), none, .bin .eql 3 (.t 51) (.c (.int .i64 0))⟩,
  ⟨(some 6), none, .mov (.t 52)⟩]
@[simp] def c_law4_LogEmpty_r16 : List Ir := [⟨(some 53), none, .mov (.t 12)⟩,
  ⟨(some 54), none, .lenV (.t 53)⟩,
  ⟨(some 55), none, .bin .lss 3 (.t 54) (.c (.int .i64 1))⟩]
@[simp] def c_law4_LogEmpty_r17 : List Ir := [⟨(some 6), none, .mov (.c (.bool false))⟩]
@[simp] def c_law4_LogEmpty_r18 : List Ir := [⟨(some 56), none, .mov (.t 8)⟩,
  ⟨(some 57), none, .mov (.t 12)⟩,
  ⟨(some 59), none, .mov (.t 2)⟩,
  ⟨(some 60), none, .ii .u64 (.t 59)⟩,
  ⟨(some 61), none, .mov (.t 12)⟩,
  ⟨(some 62), none, .lenV (.t 61)⟩,
  ⟨(some 63), none, .ii .u64 (.t 62)⟩,
  ⟨(some 64), none, .bin .rem 47 (.t 60) (.t 63)⟩,
  ⟨(some 65), none, .ii .i64 (.t 64)⟩,
  ⟨(some 58), none, .call f_law4_texts [(.t 57)]⟩,
  ⟨(some 66), none, .slv 1 (.t 58) none (some (.t 65)) none⟩,
  ⟨(some 67), none, .app 1 16 (.t 56) (.t 66)⟩,
  ⟨(some 8), none, .mov (.t 67)⟩]
@[simp] def c_law4_LogEmpty_r19 : List Ir := [⟨(some 69), none, .mov (.t 8)⟩,
  ⟨(some 70), none, .call f_log_Scan [(.t 69), (.c (.int .i64 1))]⟩,
  ⟨(some 68), none, .mov (.t 70)⟩,
  ⟨(some 71), none, .ext 0 (.t 68)⟩,
  ⟨(some 72), none, .ext 1 (.t 68)⟩,
  ⟨(some 73), none, .ext 2 (.t 68)⟩,
  ⟨(some 74), none, .ext 3 (.t 68)⟩,
  ⟨(some 14), none, .mov (.t 71)⟩,
  ⟨(some 15), none, .mov (.t 72)⟩,
  ⟨(some 16), none, .mov (.t 73)⟩,
  ⟨(some 17), none, .mov (.t 74)⟩]
@[simp] def c_law4_LogEmpty_r20 : List Ir := [⟨(some 75), none, .mov (.t 17)⟩,
  ⟨(some 76), none, .call f_law0_Num [(.t 75)]⟩,
  ⟨(some 77), none, .bin .eql 3 (.t 76) (.c (.int .i64 0))⟩,
  ⟨(some 78), none, .mov (.t 77)⟩,
  ⟨(some 79), (some (78, true)), .mov (.t 14)⟩,
  ⟨(some 80), (some (78, true)), .lenV (.t 79)⟩,
  ⟨(some 81), (some (78, true)), .mov (.t 7)⟩,
  ⟨(some 82), (some (78, true)), .bin .eql 3 (.t 80) (.t 81)⟩,
  ⟨(some 83), none, .pick (.t 78) (.t 82) (.c (.bool false))⟩,
  ⟨(some 84), none, .mov (.t 83)⟩,
  ⟨(some 85), (some (84, true)), .mov (.t 15)⟩,
  ⟨(some 86), (some (84, true)), .mov (.t 7)⟩,
  ⟨(some 87), (some (84, true)), .bin .add 3 (.c (.int .i64 1)) (.t 86)⟩,
  ⟨(some 88), (some (84, true)), .bin .eql 3 (.t 85) (.t 87)⟩,
  ⟨(some 89), none, .pick (.t 84) (.t 88) (.c (.bool false))⟩,
  ⟨(some 90), none, .mov (.t 89)⟩,
  ⟨(some 91), (some (90, true)), .mov (.t 16)⟩,
  ⟨(some 92), (some (90, true)), .mov (.t 7)⟩,
  ⟨(some 93), (some (90, true)), .bin .eql 3 (.t 91) (.t 92)⟩,
  ⟨(some 94), none, .pick (.t 90) (.t 93) (.c (.bool false))⟩,
  ⟨(some 6), none, .mov (.t 94)⟩]
@[simp] def c_law4_LogEmpty : IFn := ⟨(.seq (.reg c_law4_LogEmpty_r0) (.seq (.seq (.reg c_law4_LogEmpty_r1) (.cond (.t 19) (.seq (.reg c_law4_LogEmpty_r2) .ret) .skip)) (.seq (.reg c_law4_LogEmpty_r3) (.seq (.reg c_law4_LogEmpty_r4) (.seq (.seq (.reg c_law4_LogEmpty_r5) (.block 0 (.loop c_law4_LogEmpty_l12))) (.seq (.reg c_law4_LogEmpty_r13) (.seq (.seq (.reg c_law4_LogEmpty_r14) (.cond (.t 49) (.seq (.reg c_law4_LogEmpty_r15) .ret) .skip)) (.seq (.seq (.reg c_law4_LogEmpty_r16) (.cond (.t 55) (.seq (.reg c_law4_LogEmpty_r17) .ret) .skip)) (.seq (.regd c_law4_LogEmpty_r18 []) (.seq (.reg c_law4_LogEmpty_r19) (.seq (.reg c_law4_LogEmpty_r20) .ret))))))))))), 95, [.tmp 6]⟩
@[simp] def c_law4_LogLater_r0 : List Ir := [⟨(some 6), none, .mov (.c (.bool false))⟩]
@[simp] def c_law4_LogLater_r1 : List Ir := [⟨(some 20), none, .call f_law4_awake []⟩,
  ⟨(some 21), none, .un .not (.t 20)⟩]
@[simp] def c_law4_LogLater_r2 : List Ir := [⟨(some 6), none, .mov (.c (.bool false))⟩]
@[simp] def c_law4_LogLater_r3 : List Ir := [⟨(some 22), none, .mov (.t 2)⟩,
  ⟨(some 23), none, .bin .and 3 (.t 22) (.c (.int .i64 65535))⟩,
  ⟨(some 24), none, .bin .add 3 (.c (.int .i64 1)) (.t 23)⟩,
  ⟨(some 7), none, .mov (.t 24)⟩]
@[simp] def c_law4_LogLater_r4 : List Ir := [⟨(some 26), none, .mov (.t 0)⟩,
  ⟨(some 27), none, .mov (.t 7)⟩,
  ⟨(some 28), none, .call f_log_Make [(.t 26), (.t 27)]⟩,
  ⟨(some 25), none, .mov (.t 28)⟩,
  ⟨(some 29), none, .ext 0 (.t 25)⟩,
  ⟨(some 30), none, .ext 1 (.t 25)⟩,
  ⟨(some 8), none, .mov (.t 29)⟩,
  ⟨(some 9), none, .mov (.t 30)⟩]
@[simp] def c_law4_LogLater_r5 : List Ir := [⟨(some 31), none, .mov (.t 9)⟩,
  ⟨(some 32), none, .call f_law0_Num [(.t 31)]⟩,
  ⟨(some 33), none, .bin .neq 3 (.t 32) (.c (.int .i64 0))⟩]
@[simp] def c_law4_LogLater_r6 : List Ir := [⟨(some 34), none, .mov (.t 8)⟩,
  ⟨(some 35), none, .lenV (.t 34)⟩,
  ⟨(some 36), none, .bin .eql 3 (.t 35) (.c (.int .i64 0))⟩,
  ⟨(some 6), none, .mov (.t 36)⟩]
@[simp] def c_law4_LogLater_r7 : List Ir := [⟨(some 38), none, .mov (.t 1)⟩,
  ⟨(some 39), none, .mov (.t 7)⟩,
  ⟨(some 40), none, .mov (.t 8)⟩,
  ⟨(some 41), none, .lenV (.t 40)⟩,
  ⟨(some 42), none, .bin .add 3 (.t 39) (.t 41)⟩,
  ⟨(some 43), none, .call f_log_Make [(.t 38), (.t 42)]⟩,
  ⟨(some 37), none, .mov (.t 43)⟩,
  ⟨(some 44), none, .ext 0 (.t 37)⟩,
  ⟨(some 45), none, .ext 1 (.t 37)⟩,
  ⟨(some 10), none, .mov (.t 44)⟩,
  ⟨(some 11), none, .mov (.t 45)⟩]
@[simp] def c_law4_LogLater_r8 : List Ir := [⟨(some 46), none, .mov (.t 11)⟩,
  ⟨(some 47), none, .call f_law0_Num [(.t 46)]⟩,
  ⟨(some 48), none, .bin .neq 3 (.t 47) (.c (.int .i64 0))⟩]
@[simp] def c_law4_LogLater_r9 : List Ir := [⟨(some 49), none, .mov (.t 10)⟩,
  ⟨(some 50), none, .lenV (.t 49)⟩,
  ⟨(some 51), none, .bin .eql 3 (.t 50) (.c (.int .i64 0))⟩,
  ⟨(some 6), none, .mov (.t 51)⟩]
@[simp] def c_law4_LogLater_r10 : List Ir := [⟨(some 53), none, .mov (.t 10)⟩,
  ⟨(some 54), none, .call f_law4_texts [(.t 53)]⟩,
  ⟨(some 55), none, .mov (.t 7)⟩,
  ⟨(some 56), none, .mov (.t 8)⟩,
  ⟨(some 57), none, .lenV (.t 56)⟩,
  ⟨(some 58), none, .bin .add 3 (.t 55) (.t 57)⟩,
  ⟨(some 59), none, .call f_log_Scan [(.t 54), (.t 58)]⟩,
  ⟨(some 52), none, .mov (.t 59)⟩,
  ⟨(some 60), none, .ext 0 (.t 52)⟩,
  ⟨(some 61), none, .ext 1 (.t 52)⟩,
  ⟨(some 62), none, .ext 2 (.t 52)⟩,
  ⟨(some 63), none, .ext 3 (.t 52)⟩,
  ⟨(some 12), none, .mov (.t 60)⟩,
  ⟨(some 13), none, .mov (.t 61)⟩,
  ⟨(some 14), none, .mov (.t 62)⟩,
  ⟨(some 15), none, .mov (.t 63)⟩]
@[simp] def c_law4_LogLater_r11 : List Ir := [⟨(some 65), none, .mov (.t 10)⟩,
  ⟨(some 66), none, .call f_law4_texts [(.t 65)]⟩,
  ⟨(some 67), none, .mov (.t 7)⟩,
  ⟨(some 68), none, .call f_log_Scan [(.t 66), (.t 67)]⟩,
  ⟨(some 64), none, .mov (.t 68)⟩,
  ⟨(some 69), none, .ext 0 (.t 64)⟩,
  ⟨(some 70), none, .ext 1 (.t 64)⟩,
  ⟨(some 71), none, .ext 2 (.t 64)⟩,
  ⟨(some 72), none, .ext 3 (.t 64)⟩,
  ⟨(some 16), none, .mov (.t 69)⟩,
  ⟨(some 17), none, .mov (.t 70)⟩,
  ⟨(some 18), none, .mov (.t 71)⟩,
  ⟨(some 19), none, .mov (.t 72)⟩]
@[simp] def c_law4_LogLater_r12 : List Ir := [⟨(some 73), none, .mov (.t 15)⟩,
  ⟨(some 74), none, .call f_law0_Num [(.t 73)]⟩,
  ⟨(some 75), none, .bin .eql 3 (.t 74) (.c (.int .i64 0))⟩,
  ⟨(some 76), none, .mov (.t 75)⟩,
  ⟨(some 77), (some (76, true)), .mov (.t 12)⟩,
  ⟨(some 78), (some (76, true)), .mov (.t 1)⟩,
  ⟨(some 79), (some (76, true)), .mkrow 1 1 [(.slice none 0 0)] [(0, (1, (.t 78)))]⟩,
  ⟨(some 80), (some (76, true)), .call f_law4_sameTxns [(.t 77), (.t 79)]⟩,
  ⟨(some 81), none, .pick (.t 76) (.t 80) (.c (.bool false))⟩,
  ⟨(some 82), none, .mov (.t 81)⟩,
  ⟨(some 83), (some (82, true)), .mov (.t 13)⟩,
  ⟨(some 84), (some (82, true)), .mov (.t 7)⟩,
  ⟨(some 85), (some (82, true)), .mov (.t 8)⟩,
  ⟨(some 86), (some (82, true)), .lenV (.t 85)⟩,
  ⟨(some 87), (some (82, true)), .bin .add 3 (.t 84) (.t 86)⟩,
  ⟨(some 88), (some (82, true)), .mov (.t 10)⟩,
  ⟨(some 89), (some (82, true)), .lenV (.t 88)⟩,
  ⟨(some 90), (some (82, true)), .bin .add 3 (.t 87) (.t 89)⟩,
  ⟨(some 91), (some (82, true)), .bin .eql 3 (.t 83) (.t 90)⟩,
  ⟨(some 92), none, .pick (.t 82) (.t 91) (.c (.bool false))⟩,
  ⟨(some 93), none, .mov (.t 92)⟩,
  ⟨(some 94), (some (93, true)), .mov (.t 14)⟩,
  ⟨(some 95), (some (93, true)), .mov (.t 10)⟩,
  ⟨(some 96), (some (93, true)), .lenV (.t 95)⟩,
  ⟨(some 97), (some (93, true)), .bin .eql 3 (.t 94) (.t 96)⟩,
  ⟨(some 98), none, .pick (.t 93) (.t 97) (.c (.bool false))⟩,
  ⟨(some 99), none, .mov (.t 98)⟩,
  ⟨(some 100), (some (99, true)), .mov (.t 19)⟩,
  ⟨(some 101), (some (99, true)), .call f_law0_Num [(.t 100)]⟩,
  ⟨(some 102), (some (99, true)), .bin .eql 3 (.t 101) (.c (.int .i64 0))⟩,
  ⟨(some 103), none, .pick (.t 99) (.t 102) (.c (.bool false))⟩,
  ⟨(some 104), none, .mov (.t 103)⟩,
  ⟨(some 105), (some (104, true)), .mov (.t 16)⟩,
  ⟨(some 106), (some (104, true)), .lenV (.t 105)⟩,
  ⟨(some 107), (some (104, true)), .bin .eql 3 (.t 106) (.c (.int .i64 0))⟩,
  ⟨(some 108), none, .pick (.t 104) (.t 107) (.c (.bool false))⟩,
  ⟨(some 109), none, .mov (.t 108)⟩,
  ⟨(some 110), (some (109, true)), .mov (.t 17)⟩,
  ⟨(some 111), (some (109, true)), .mov (.t 7)⟩,
  ⟨(some 112), (some (109, true)), .bin .eql 3 (.t 110) (.t 111)⟩,
  ⟨(some 113), none, .pick (.t 109) (.t 112) (.c (.bool false))⟩,
  ⟨(some 114), none, .mov (.t 113)⟩,
  ⟨(some 115), (some (114, true)), .mov (.t 18)⟩,
  ⟨(some 116), (some (114, true)), .bin .eql 3 (.t 115) (.c (.int .i64 0))⟩,
  ⟨(some 117), none, .pick (.t 114) (.t 116) (.c (.bool false))⟩,
  ⟨(some 6), none, .mov (.t 117)⟩]
@[simp] def c_law4_LogLater : IFn := ⟨(.seq (.reg c_law4_LogLater_r0) (.seq (.seq (.reg c_law4_LogLater_r1) (.cond (.t 21) (.seq (.reg c_law4_LogLater_r2) .ret) .skip)) (.seq (.reg c_law4_LogLater_r3) (.seq (.reg c_law4_LogLater_r4) (.seq (.seq (.reg c_law4_LogLater_r5) (.cond (.t 33) (.seq (.reg c_law4_LogLater_r6) .ret) .skip)) (.seq (.reg c_law4_LogLater_r7) (.seq (.seq (.reg c_law4_LogLater_r8) (.cond (.t 48) (.seq (.reg c_law4_LogLater_r9) .ret) .skip)) (.seq (.reg c_law4_LogLater_r10) (.seq (.reg c_law4_LogLater_r11) (.seq (.reg c_law4_LogLater_r12) .ret)))))))))), 118, [.tmp 6]⟩
@[simp] def c_law0_LendImages_r0 : List Ir := [⟨(some 2), none, .mov (.c (.slice none 0 0))⟩]
@[simp] def c_law0_LendImages_r1 : List Ir := [⟨(some 4), none, .mov (.t 0)⟩,
  ⟨(some 5), none, .call f_law0_CopyImages [(.t 4)]⟩,
  ⟨(some 6), none, .build [(.int .i64 0), (.string ⟨#[]⟩)] [(0, (1, (.c (.int .i64 77777))))]⟩,
  ⟨(some 7), none, .build [(.int .i64 0), (.string ⟨#[]⟩)] [(0, (1, (.c (.int .i64 77777))))]⟩,
  ⟨(some 8), none, .mkrow 2 2 [(.int .i64 0), (.string ⟨#[]⟩), (.int .i64 0), (.string ⟨#[]⟩)] [(0, (2, (.t 6))), (2, (2, (.t 7)))]⟩,
  ⟨(some 9), none, .app 2 24 (.t 5) (.t 8)⟩,
  ⟨(some 3), none, .mov (.t 9)⟩]
@[simp] def c_law0_LendImages_r2 : List Ir := [⟨(some 10), none, .mov (.t 3)⟩,
  ⟨(some 11), none, .mov (.t 0)⟩,
  ⟨(some 12), none, .lenV (.t 11)⟩,
  ⟨(some 13), none, .slv 2 (.t 10) none (some (.t 12)) none⟩,
  ⟨(some 2), none, .mov (.t 13)⟩]
@[simp] def c_law0_LendImages : IFn := ⟨(.seq (.reg c_law0_LendImages_r0) (.seq (.reg c_law0_LendImages_r1) (.seq (.reg c_law0_LendImages_r2) .ret))), 14, [.tmp 2]⟩
@[simp] def c_law0_LendTexts_r0 : List Ir := [⟨(some 2), none, .mov (.c (.slice none 0 0))⟩]
@[simp] def c_law0_LendTexts_r1 : List Ir := [⟨(some 4), none, .mov (.t 0)⟩,
  ⟨(some 5), none, .call f_law0_CopyTexts [(.t 4)]⟩,
  ⟨(some 6), none, .mkrow 1 2 [(.string ⟨#[]⟩), (.string ⟨#[]⟩)] [(0, (1, (.c (.string ⟨#[126, 114, 111, 111, 109]⟩)))), (1, (1, (.c (.string ⟨#[126, 98, 101, 104, 105, 110, 100]⟩))))]⟩,
  ⟨(some 7), none, .app 1 16 (.t 5) (.t 6)⟩,
  ⟨(some 3), none, .mov (.t 7)⟩]
@[simp] def c_law0_LendTexts_r2 : List Ir := [⟨(some 8), none, .mov (.t 3)⟩,
  ⟨(some 9), none, .mov (.t 0)⟩,
  ⟨(some 10), none, .lenV (.t 9)⟩,
  ⟨(some 11), none, .slv 1 (.t 8) none (some (.t 10)) none⟩,
  ⟨(some 2), none, .mov (.t 11)⟩]
@[simp] def c_law0_LendTexts : IFn := ⟨(.seq (.reg c_law0_LendTexts_r0) (.seq (.reg c_law0_LendTexts_r1) (.seq (.reg c_law0_LendTexts_r2) .ret))), 12, [.tmp 2]⟩
@[simp] def c_log_Make_r0 : List Ir := [⟨(some 4), none, .mov (.c (.slice none 0 0))⟩,
  ⟨(some 5), none, .mov (.c (.int .i64 0))⟩]
@[simp] def c_log_Make_r1 : List Ir := [⟨(some 9), none, .mov (.t 0)⟩,
  ⟨(some 10), none, .call f_log_Images [(.t 9)]⟩,
  ⟨(some 11), none, .un .not (.t 10)⟩,
  ⟨(some 12), none, .mov (.t 11)⟩,
  ⟨(some 13), (some (12, false)), .mov (.t 1)⟩,
  ⟨(some 14), (some (12, false)), .call f_record_Seq [(.t 13)]⟩,
  ⟨(some 15), (some (12, false)), .un .not (.t 14)⟩,
  ⟨(some 16), none, .pick (.t 12) (.c (.bool true)) (.t 15)⟩,
  ⟨(some 17), none, .mov (.t 16)⟩,
  ⟨(some 18), (some (17, false)), .mov (.t 1)⟩,
  ⟨(some 19), (some (17, false)), .mov (.t 0)⟩,
  ⟨(some 20), (some (17, false)), .lenV (.t 19)⟩,
  ⟨(some 21), (some (17, false)), .call f_log_Count [(.t 20)]⟩,
  ⟨(some 22), (some (17, false)), .bin .add 3 (.t 18) (.t 21)⟩,
  ⟨(some 23), (some (17, false)), .bin .sub 3 (.t 22) (.c (.int .i64 1))⟩,
  ⟨(some 24), (some (17, false)), .call f_record_Seq [(.t 23)]⟩,
  ⟨(some 25), (some (17, false)), .un .not (.t 24)⟩,
  ⟨(some 26), none, .pick (.t 17) (.c (.bool true)) (.t 25)⟩]
@[simp] def c_log_Make_r2 : List Ir := [⟨(some 4), none, .mov (.c (.slice none 0 0))⟩,
  ⟨(some 5), none, .mov (.c (.int .i64 400))⟩]
@[simp] def c_log_Make_r3 : List Ir := [⟨(some 6), none, .mov (.c (.slice none 0 0))⟩]
@[simp] def c_log_Make_r4 : List Ir := [⟨(some 27), none, .mov (.t 0)⟩,
  ⟨(some 28), none, .lenV (.t 27)⟩,
  ⟨(some 29), none, .mov (.c (.int .i64 0))⟩]
@[simp] def c_log_Make_r5 : List Ir := [⟨(some 30), none, .bin .lss 3 (.t 29) (.t 28)⟩]
@[simp] def c_log_Make_r6 : List Ir := [⟨(some 31), none, .iadrS 2 (.t 27) (.t 29)⟩,
  ⟨(some 32), none, .ldn 2 (.t 31)⟩,
  ⟨(some 8), none, .new [(.int .i64 0), (.string ⟨#[]⟩)]⟩,
  ⟨none, none, .st 2 (.t 8) (.t 32)⟩]
@[simp] def c_log_Make_r7 : List Ir := [⟨(some 33), none, .mov (.t 6)⟩,
  ⟨(some 34), none, .ldn 2 (.t 8)⟩,
  ⟨(some 35), none, .mov (.t 1)⟩,
  ⟨(some 36), none, .mov (.t 6)⟩,
  ⟨(some 37), none, .lenV (.t 36)⟩,
  ⟨(some 38), none, .bin .add 3 (.t 35) (.t 37)⟩,
  ⟨(some 39), none, .call f_log_Parts [(.t 34), (.t 38), (.c (.int .i64 1))]⟩,
  ⟨(some 40), none, .app 4 40 (.t 33) (.t 39)⟩,
  ⟨(some 6), none, .mov (.t 40)⟩]
@[simp] def c_log_Make_r8 : List Ir := [⟨(some 41), none, .bin .add 3 (.t 29) (.c (.int .i64 1))⟩,
  ⟨(some 29), none, .mov (.t 41)⟩]
def c_log_Make_l9 : IC := (.seq (.reg c_log_Make_r5) (.seq (.cond (.t 30) .skip (.exit 0)) (.seq (.block 1 (.seq (.reg c_log_Make_r6) (.reg c_log_Make_r7))) (.reg c_log_Make_r8))))
@[simp] def c_log_Make_r10 : List Ir := [⟨(some 42), none, .mov (.t 6)⟩,
  ⟨(some 43), none, .mov (.t 1)⟩,
  ⟨(some 44), none, .mov (.t 6)⟩,
  ⟨(some 45), none, .lenV (.t 44)⟩,
  ⟨(some 46), none, .bin .add 3 (.t 43) (.t 45)⟩,
  ⟨(some 47), none, .build [(.int .i64 0), (.int .i64 0), (.int .i64 0), (.string ⟨#[]⟩)] [(0, (1, (.t 46))), (2, (1, (.c (.int .i64 4))))]⟩,
  ⟨(some 48), none, .mkrow 4 1 [(.int .i64 0), (.int .i64 0), (.int .i64 0), (.string ⟨#[]⟩)] [(0, (4, (.t 47)))]⟩,
  ⟨(some 49), none, .app 4 40 (.t 42) (.t 48)⟩,
  ⟨(some 4), none, .mov (.t 49)⟩,
  ⟨(some 5), none, .mov (.c (.int .i64 0))⟩]
@[simp] def c_log_Make : IFn := ⟨(.seq (.reg c_log_Make_r0) (.seq (.seq (.reg c_log_Make_r1) (.cond (.t 26) (.seq (.reg c_log_Make_r2) .ret) .skip)) (.seq (.reg c_log_Make_r3) (.seq (.seq (.reg c_log_Make_r4) (.block 0 (.loop c_log_Make_l9))) (.seq (.reg c_log_Make_r10) .ret))))), 50, [.tmp 4, .tmp 5]⟩
@[simp] def c_ref1_Make_r0 : List Ir := [⟨(some 4), none, .mov (.c (.slice none 0 0))⟩,
  ⟨(some 5), none, .mov (.c (.int .i64 0))⟩]
@[simp] def c_ref1_Make_r1 : List Ir := [⟨(some 9), none, .mov (.t 0)⟩,
  ⟨(some 10), none, .call f_ref1_ImagesMay [(.t 9)]⟩,
  ⟨(some 11), none, .un .not (.t 10)⟩,
  ⟨(some 12), none, .mov (.t 11)⟩,
  ⟨(some 13), (some (12, false)), .mov (.t 1)⟩,
  ⟨(some 14), (some (12, false)), .call f_ref1_seqMay [(.t 13)]⟩,
  ⟨(some 15), (some (12, false)), .un .not (.t 14)⟩,
  ⟨(some 16), none, .pick (.t 12) (.c (.bool true)) (.t 15)⟩,
  ⟨(some 17), none, .mov (.t 16)⟩,
  ⟨(some 18), (some (17, false)), .mov (.t 1)⟩,
  ⟨(some 19), (some (17, false)), .mov (.t 0)⟩,
  ⟨(some 20), (some (17, false)), .lenV (.t 19)⟩,
  ⟨(some 21), (some (17, false)), .bin .mul 3 (.c (.int .i64 4)) (.t 20)⟩,
  ⟨(some 22), (some (17, false)), .bin .add 3 (.t 18) (.t 21)⟩,
  ⟨(some 23), (some (17, false)), .call f_ref1_seqMay [(.t 22)]⟩,
  ⟨(some 24), (some (17, false)), .un .not (.t 23)⟩,
  ⟨(some 25), none, .pick (.t 17) (.c (.bool true)) (.t 24)⟩]
@[simp] def c_ref1_Make_r2 : List Ir := [⟨(some 4), none, .mov (.c (.slice none 0 0))⟩,
  ⟨(some 5), none, .mov (.c (.int .i64 400))⟩]
@[simp] def c_ref1_Make_r3 : List Ir := [⟨(some 6), none, .mov (.c (.slice none 0 0))⟩]
@[simp] def c_ref1_Make_r4 : List Ir := [⟨(some 7), none, .mov (.c (.int .i64 0))⟩]
@[simp] def c_ref1_Make_r5 : List Ir := [⟨(some 26), none, .mov (.t 7)⟩,
  ⟨(some 27), none, .mov (.t 0)⟩,
  ⟨(some 28), none, .lenV (.t 27)⟩,
  ⟨(some 29), none, .bin .lss 3 (.t 26) (.t 28)⟩]
@[simp] def c_ref1_Make_r6 : List Ir := [⟨(some 8), none, .mov (.c (.int .i64 0))⟩]
@[simp] def c_ref1_Make_r7 : List Ir := [⟨(some 32), none, .mov (.t 8)⟩,
  ⟨(some 33), none, .bin .lss 3 (.t 32) (.c (.int .i64 4))⟩]
@[simp] def c_ref1_Make_r8 : List Ir := [⟨(some 36), none, .mov (.t 6)⟩,
  ⟨(some 37), none, .mov (.t 1)⟩,
  ⟨(some 38), none, .mov (.t 6)⟩,
  ⟨(some 39), none, .lenV (.t 38)⟩,
  ⟨(some 40), none, .bin .add 3 (.t 37) (.t 39)⟩,
  ⟨(some 41), none, .mov (.t 0)⟩,
  ⟨(some 42), none, .mov (.t 7)⟩,
  ⟨(some 43), none, .iadrS 2 (.t 41) (.t 42)⟩,
  ⟨(some 44), none, .fadr 0 (.t 43)⟩,
  ⟨(some 45), none, .ld (.t 44)⟩,
  ⟨(some 46), none, .mov (.t 8)⟩,
  ⟨(some 47), none, .mov (.t 0)⟩,
  ⟨(some 48), none, .mov (.t 7)⟩,
  ⟨(some 49), none, .iadrS 2 (.t 47) (.t 48)⟩,
  ⟨(some 50), none, .fadr 1 (.t 49)⟩,
  ⟨(some 51), none, .ld (.t 50)⟩,
  ⟨(some 52), none, .mov (.t 8)⟩,
  ⟨(some 53), none, .call f_ref1_part [(.t 51), (.t 52)]⟩,
  ⟨(some 54), none, .build [(.int .i64 0), (.int .i64 0), (.int .i64 0), (.string ⟨#[]⟩)] [(0, (1, (.t 40))), (1, (1, (.t 45))), (2, (1, (.t 46))), (3, (1, (.t 53)))]⟩,
  ⟨(some 55), none, .mkrow 4 1 [(.int .i64 0), (.int .i64 0), (.int .i64 0), (.string ⟨#[]⟩)] [(0, (4, (.t 54)))]⟩,
  ⟨(some 56), none, .app 4 40 (.t 36) (.t 55)⟩,
  ⟨(some 6), none, .mov (.t 56)⟩]
@[simp] def c_ref1_Make_r9 : List Ir := [⟨(some 34), none, .mov (.t 8)⟩,
  ⟨(some 35), none, .bin .add 3 (.t 34) (.c (.int .i64 1))⟩,
  ⟨(some 8), none, .mov (.t 35)⟩]
def c_ref1_Make_l10 : IC := (.seq (.seq (.reg c_ref1_Make_r7) (.cond (.t 33) .skip (.exit 2))) (.seq (.block 3 (.regd c_ref1_Make_r8 [(9, 17)])) (.reg c_ref1_Make_r9)))
@[simp] def c_ref1_Make_r11 : List Ir := [⟨(some 30), none, .mov (.t 7)⟩,
  ⟨(some 31), none, .bin .add 3 (.t 30) (.c (.int .i64 1))⟩,
  ⟨(some 7), none, .mov (.t 31)⟩]
def c_ref1_Make_l12 : IC := (.seq (.seq (.reg c_ref1_Make_r5) (.cond (.t 29) .skip (.exit 0))) (.seq (.block 1 (.seq (.reg c_ref1_Make_r6) (.block 2 (.loop c_ref1_Make_l10)))) (.reg c_ref1_Make_r11)))
@[simp] def c_ref1_Make_r13 : List Ir := [⟨(some 57), none, .mov (.t 6)⟩,
  ⟨(some 58), none, .mov (.t 1)⟩,
  ⟨(some 59), none, .mov (.t 6)⟩,
  ⟨(some 60), none, .lenV (.t 59)⟩,
  ⟨(some 61), none, .bin .add 3 (.t 58) (.t 60)⟩,
  ⟨(some 62), none, .build [(.int .i64 0), (.int .i64 0), (.int .i64 0), (.string ⟨#[]⟩)] [(0, (1, (.t 61))), (2, (1, (.c (.int .i64 4))))]⟩,
  ⟨(some 63), none, .mkrow 4 1 [(.int .i64 0), (.int .i64 0), (.int .i64 0), (.string ⟨#[]⟩)] [(0, (4, (.t 62)))]⟩,
  ⟨(some 64), none, .app 4 40 (.t 57) (.t 63)⟩,
  ⟨(some 6), none, .mov (.t 64)⟩]
@[simp] def c_ref1_Make_r14 : List Ir := [⟨(some 65), none, .mov (.t 6)⟩,
  ⟨(some 4), none, .mov (.t 65)⟩,
  ⟨(some 5), none, .mov (.c (.int .i64 0))⟩]
@[simp] def c_ref1_Make : IFn := ⟨(.seq (.reg c_ref1_Make_r0) (.seq (.seq (.reg c_ref1_Make_r1) (.cond (.t 25) (.seq (.reg c_ref1_Make_r2) .ret) .skip)) (.seq (.reg c_ref1_Make_r3) (.seq (.seq (.reg c_ref1_Make_r4) (.block 0 (.loop c_ref1_Make_l12))) (.seq (.reg c_ref1_Make_r13) (.seq (.reg c_ref1_Make_r14) .ret)))))), 66, [.tmp 4, .tmp 5]⟩
@[simp] def c_log_Scan_r0 : List Ir := [⟨(some 4), none, .mov (.c (.slice none 0 0))⟩,
  ⟨(some 5), none, .mov (.c (.int .i64 0))⟩,
  ⟨(some 6), none, .mov (.c (.int .i64 0))⟩,
  ⟨(some 7), none, .mov (.c (.int .i64 0))⟩]
@[simp] def c_log_Scan_r1 : List Ir := [⟨(some 13), none, .mov (.t 1)⟩,
  ⟨(some 14), none, .call f_record_Seq [(.t 13)]⟩,
  ⟨(some 15), none, .un .not (.t 14)⟩,
  ⟨(some 16), none, .mov (.t 15)⟩,
  ⟨(some 17), (some (16, false)), .mov (.t 0)⟩,
  ⟨(some 18), (some (16, false)), .lenV (.t 17)⟩,
  ⟨(some 19), (some (16, false)), .bin .gtr 3 (.t 18) (.c (.int .i64 200))⟩,
  ⟨(some 20), none, .pick (.t 16) (.c (.bool true)) (.t 19)⟩]
@[simp] def c_log_Scan_r2 : List Ir := [⟨(some 4), none, .mov (.c (.slice none 0 0))⟩,
  ⟨(some 5), none, .mov (.c (.int .i64 0))⟩,
  ⟨(some 6), none, .mov (.c (.int .i64 0))⟩,
  ⟨(some 7), none, .mov (.c (.int .i64 400))⟩]
@[simp] def c_log_Scan_r3 : List Ir := [⟨(some 8), none, .new [(.slice none 0 0), (.int .i64 0), (.slice none 0 0), (.int .i64 0), (.bool false)]⟩]
@[simp] def c_log_Scan_r4 : List Ir := [⟨(some 21), none, .mov (.t 0)⟩,
  ⟨(some 22), none, .lenV (.t 21)⟩,
  ⟨(some 23), none, .mov (.c (.int .i64 0))⟩]
@[simp] def c_log_Scan_r5 : List Ir := [⟨(some 24), none, .bin .lss 3 (.t 23) (.t 22)⟩]
@[simp] def c_log_Scan_r6 : List Ir := [⟨(some 25), none, .mov (.t 23)⟩,
  ⟨(some 26), none, .iadrS 1 (.t 21) (.t 23)⟩,
  ⟨(some 27), none, .ld (.t 26)⟩,
  ⟨(some 9), none, .mov (.t 25)⟩,
  ⟨(some 10), none, .mov (.t 27)⟩]
@[simp] def c_log_Scan_r7 : List Ir := [⟨(some 29), none, .mov (.t 10)⟩,
  ⟨(some 30), none, .call f_record_Get [(.t 29)]⟩,
  ⟨(some 28), none, .mov (.t 30)⟩,
  ⟨(some 31), none, .ext 0 (.t 28)⟩,
  ⟨(some 32), none, .ext 1 (.t 28)⟩,
  ⟨(some 11), none, .new [(.int .i64 0), (.int .i64 0), (.int .i64 0), (.string ⟨#[]⟩)]⟩,
  ⟨none, none, .st 4 (.t 11) (.t 31)⟩,
  ⟨(some 12), none, .mov (.t 32)⟩]
@[simp] def c_log_Scan_r8 : List Ir := [⟨(some 33), none, .mov (.t 12)⟩,
  ⟨(some 34), none, .bin .neq 27 (.t 33) (.c (.int .i64 0))⟩,
  ⟨(some 35), none, .mov (.t 34)⟩,
  ⟨(some 36), (some (35, false)), .fadr 0 (.t 11)⟩,
  ⟨(some 37), (some (35, false)), .ld (.t 36)⟩,
  ⟨(some 38), (some (35, false)), .mov (.t 1)⟩,
  ⟨(some 39), (some (35, false)), .mov (.t 9)⟩,
  ⟨(some 40), (some (35, false)), .bin .add 3 (.t 38) (.t 39)⟩,
  ⟨(some 41), (some (35, false)), .bin .neq 3 (.t 37) (.t 40)⟩,
  ⟨(some 42), none, .pick (.t 35) (.c (.bool true)) (.t 41)⟩,
  ⟨(some 43), none, .mov (.t 42)⟩,
  ⟨(some 44), (some (43, false)), .ldn 4 (.t 11)⟩,
  ⟨(some 45), (some (43, false)), .mov (.t 9)⟩,
  ⟨(some 46), (some (43, false)), .call f_log_scanner_take [(.t 8), (.t 44), (.t 45)]⟩,
  ⟨(some 47), (some (43, false)), .un .not (.t 46)⟩,
  ⟨(some 48), none, .pick (.t 43) (.c (.bool true)) (.t 47)⟩]
@[simp] def c_log_Scan_r9 : List Ir := [⟨(some 49), none, .bin .add 3 (.t 23) (.c (.int .i64 1))⟩,
  ⟨(some 23), none, .mov (.t 49)⟩]
def c_log_Scan_l10 : IC := (.seq (.reg c_log_Scan_r5) (.seq (.cond (.t 24) .skip (.exit 0)) (.seq (.block 1 (.seq (.reg c_log_Scan_r6) (.seq (.reg c_log_Scan_r7) (.seq (.reg c_log_Scan_r8) (.cond (.t 48) (.exit 0) .skip))))) (.reg c_log_Scan_r9))))
@[simp] def c_log_Scan_r11 : List Ir := [⟨(some 50), none, .fadr 0 (.t 8)⟩,
  ⟨(some 51), none, .ld (.t 50)⟩,
  ⟨(some 52), none, .mov (.t 1)⟩,
  ⟨(some 53), none, .fadr 1 (.t 8)⟩,
  ⟨(some 54), none, .ld (.t 53)⟩,
  ⟨(some 55), none, .bin .add 3 (.t 52) (.t 54)⟩,
  ⟨(some 56), none, .fadr 1 (.t 8)⟩,
  ⟨(some 57), none, .ld (.t 56)⟩,
  ⟨(some 4), none, .mov (.t 51)⟩,
  ⟨(some 5), none, .mov (.t 55)⟩,
  ⟨(some 6), none, .mov (.t 57)⟩,
  ⟨(some 7), none, .mov (.c (.int .i64 0))⟩]
@[simp] def c_log_Scan : IFn := ⟨(.seq (.reg c_log_Scan_r0) (.seq (.seq (.reg c_log_Scan_r1) (.cond (.t 20) (.seq (.reg c_log_Scan_r2) .ret) .skip)) (.seq (.reg c_log_Scan_r3) (.seq (.seq (.reg c_log_Scan_r4) (.block 0 (.loop c_log_Scan_l10))) (.seq (.regd c_log_Scan_r11 []) .ret))))), 58, [.tmp 4, .tmp 5, .tmp 6, .tmp 7]⟩
@[simp] def c_ref1_Scan_r0 : List Ir := [⟨(some 4), none, .mov (.c (.slice none 0 0))⟩,
  ⟨(some 5), none, .mov (.c (.int .i64 0))⟩,
  ⟨(some 6), none, .mov (.c (.int .i64 0))⟩,
  ⟨(some 7), none, .mov (.c (.int .i64 0))⟩]
@[simp] def c_ref1_Scan_r1 : List Ir := [⟨(some 12), none, .mov (.t 1)⟩,
  ⟨(some 13), none, .call f_ref1_seqMay [(.t 12)]⟩,
  ⟨(some 14), none, .un .not (.t 13)⟩,
  ⟨(some 15), none, .mov (.t 14)⟩,
  ⟨(some 16), (some (15, false)), .mov (.t 0)⟩,
  ⟨(some 17), (some (15, false)), .lenV (.t 16)⟩,
  ⟨(some 18), (some (15, false)), .bin .gtr 3 (.t 17) (.c (.int .i64 200))⟩,
  ⟨(some 19), none, .pick (.t 15) (.c (.bool true)) (.t 18)⟩]
@[simp] def c_ref1_Scan_r2 : List Ir := [⟨(some 4), none, .mov (.c (.slice none 0 0))⟩,
  ⟨(some 5), none, .mov (.c (.int .i64 0))⟩,
  ⟨(some 6), none, .mov (.c (.int .i64 0))⟩,
  ⟨(some 7), none, .mov (.c (.int .i64 400))⟩]
@[simp] def c_ref1_Scan_r3 : List Ir := [⟨(some 8), none, .mov (.c (.slice none 0 0))⟩]
@[simp] def c_ref1_Scan_r4 : List Ir := [⟨(some 9), none, .mov (.c (.int .i64 0))⟩]
@[simp] def c_ref1_Scan_r5 : List Ir := [⟨(some 21), none, .mov (.t 0)⟩,
  ⟨(some 22), none, .mov (.t 9)⟩,
  ⟨(some 23), none, .slv 1 (.t 21) (some (.t 22)) none none⟩,
  ⟨(some 24), none, .mov (.t 1)⟩,
  ⟨(some 25), none, .mov (.t 9)⟩,
  ⟨(some 26), none, .bin .add 3 (.t 24) (.t 25)⟩,
  ⟨(some 27), none, .call f_ref1_one [(.t 23), (.t 26)]⟩,
  ⟨(some 20), none, .mov (.t 27)⟩,
  ⟨(some 28), none, .ext 0 (.t 20)⟩,
  ⟨(some 29), none, .ext 1 (.t 20)⟩,
  ⟨(some 10), none, .mov (.t 28)⟩,
  ⟨(some 11), none, .mov (.t 29)⟩]
@[simp] def c_ref1_Scan_r6 : List Ir := [⟨(some 30), none, .mov (.t 11)⟩,
  ⟨(some 31), none, .bin .eql 3 (.t 30) (.c (.int .i64 0))⟩]
@[simp] def c_ref1_Scan_r7 : List Ir := [⟨(some 32), none, .mov (.t 8)⟩,
  ⟨(some 33), none, .mov (.t 1)⟩,
  ⟨(some 34), none, .mov (.t 9)⟩,
  ⟨(some 35), none, .bin .add 3 (.t 33) (.t 34)⟩,
  ⟨(some 36), none, .mov (.t 9)⟩,
  ⟨(some 4), none, .mov (.t 32)⟩,
  ⟨(some 5), none, .mov (.t 35)⟩,
  ⟨(some 6), none, .mov (.t 36)⟩,
  ⟨(some 7), none, .mov (.c (.int .i64 0))⟩]
@[simp] def c_ref1_Scan_r8 : List Ir := [⟨(some 37), none, .mov (.t 8)⟩,
  ⟨(some 38), none, .mov (.t 10)⟩,
  ⟨(some 39), none, .mkrow 1 1 [(.slice none 0 0)] [(0, (1, (.t 38)))]⟩,
  ⟨(some 40), none, .app 1 24 (.t 37) (.t 39)⟩,
  ⟨(some 8), none, .mov (.t 40)⟩]
@[simp] def c_ref1_Scan_r9 : List Ir := [⟨(some 41), none, .mov (.t 9)⟩,
  ⟨(some 42), none, .mov (.t 11)⟩,
  ⟨(some 43), none, .bin .add 3 (.t 41) (.t 42)⟩,
  ⟨(some 9), none, .mov (.t 43)⟩]
def c_ref1_Scan_l10 : IC := (.block 1 (.seq (.reg c_ref1_Scan_r5) (.seq (.seq (.reg c_ref1_Scan_r6) (.cond (.t 31) (.seq (.reg c_ref1_Scan_r7) .ret) .skip)) (.seq (.reg c_ref1_Scan_r8) (.reg c_ref1_Scan_r9)))))
@[simp] def c_ref1_Scan : IFn := ⟨(.seq (.reg c_ref1_Scan_r0) (.seq (.seq (.reg c_ref1_Scan_r1) (.cond (.t 19) (.seq (.reg c_ref1_Scan_r2) .ret) .skip)) (.seq (.reg c_ref1_Scan_r3) (.seq (.reg c_ref1_Scan_r4) (.block 0 (.loop c_ref1_Scan_l10)))))), 44, [.tmp 4, .tmp 5, .tmp 6, .tmp 7]⟩
@[simp] def c_law0_SameRecords_r0 : List Ir := [⟨(some 4), none, .mov (.c (.bool false))⟩]
@[simp] def c_law0_SameRecords_r1 : List Ir := [⟨(some 6), none, .mov (.t 0)⟩,
  ⟨(some 7), none, .lenV (.t 6)⟩,
  ⟨(some 8), none, .mov (.t 1)⟩,
  ⟨(some 9), none, .lenV (.t 8)⟩,
  ⟨(some 10), none, .bin .neq 3 (.t 7) (.t 9)⟩]
@[simp] def c_law0_SameRecords_r2 : List Ir := [⟨(some 4), none, .mov (.c (.bool false))⟩]
@[simp] def c_law0_SameRecords_r3 : List Ir := [⟨(some 5), none, .mov (.c (.int .i64 0))⟩]
@[simp] def c_law0_SameRecords_r4 : List Ir := [⟨(some 11), none, .mov (.t 5)⟩,
  ⟨(some 12), none, .mov (.t 0)⟩,
  ⟨(some 13), none, .lenV (.t 12)⟩,
  ⟨(some 14), none, .bin .lss 3 (.t 11) (.t 13)⟩]
@[simp] def c_law0_SameRecords_r5 : List Ir := [⟨(some 17), none, .mov (.t 0)⟩,
  ⟨(some 18), none, .mov (.t 5)⟩,
  ⟨(some 19), none, .iadrS 4 (.t 17) (.t 18)⟩,
  ⟨(some 20), none, .ldn 4 (.t 19)⟩,
  ⟨(some 21), none, .mov (.t 1)⟩,
  ⟨(some 22), none, .mov (.t 5)⟩,
  ⟨(some 23), none, .iadrS 4 (.t 21) (.t 22)⟩,
  ⟨(some 24), none, .ldn 4 (.t 23)⟩,
  ⟨(some 25), none, .eqa true [.num .i64, .num .i64, .num .i64, .txt] (.t 20) (.t 24)⟩]
@[simp] def c_law0_SameRecords_r6 : List Ir := [⟨(some 4), none, .mov (.c (.bool false))⟩]
@[simp] def c_law0_SameRecords_r7 : List Ir := [⟨(some 15), none, .mov (.t 5)⟩,
  ⟨(some 16), none, .bin .add 3 (.t 15) (.c (.int .i64 1))⟩,
  ⟨(some 5), none, .mov (.t 16)⟩]
def c_law0_SameRecords_l8 : IC := (.seq (.seq (.reg c_law0_SameRecords_r4) (.cond (.t 14) .skip (.exit 0))) (.seq (.block 1 (.seq (.regd c_law0_SameRecords_r5 []) (.cond (.t 25) (.seq (.reg c_law0_SameRecords_r6) .ret) .skip))) (.reg c_law0_SameRecords_r7)))
@[simp] def c_law0_SameRecords_r9 : List Ir := [⟨(some 4), none, .mov (.c (.bool true))⟩]
@[simp] def c_law0_SameRecords : IFn := ⟨(.seq (.reg c_law0_SameRecords_r0) (.seq (.seq (.reg c_law0_SameRecords_r1) (.cond (.t 10) (.seq (.reg c_law0_SameRecords_r2) .ret) .skip)) (.seq (.seq (.reg c_law0_SameRecords_r3) (.block 0 (.loop c_law0_SameRecords_l8))) (.seq (.reg c_law0_SameRecords_r9) .ret)))), 26, [.tmp 4]⟩
@[simp] def c_law0_Num_r0 : List Ir := [⟨(some 2), none, .mov (.c (.int .i64 0))⟩]
@[simp] def c_law0_Num_r1 : List Ir := [⟨(some 3), none, .mov (.t 0)⟩,
  ⟨(some 2), none, .mov (.t 3)⟩]
@[simp] def c_law0_Num : IFn := ⟨(.seq (.reg c_law0_Num_r0) (.seq (.reg c_law0_Num_r1) .ret)), 4, [.tmp 2]⟩
@[simp] def c_law4_sameTxns_r0 : List Ir := [⟨(some 4), none, .mov (.c (.bool false))⟩]
@[simp] def c_law4_sameTxns_r1 : List Ir := [⟨(some 6), none, .mov (.t 0)⟩,
  ⟨(some 7), none, .lenV (.t 6)⟩,
  ⟨(some 8), none, .mov (.t 1)⟩,
  ⟨(some 9), none, .lenV (.t 8)⟩,
  ⟨(some 10), none, .bin .neq 3 (.t 7) (.t 9)⟩]
@[simp] def c_law4_sameTxns_r2 : List Ir := [⟨(some 4), none, .mov (.c (.bool false))⟩]
@[simp] def c_law4_sameTxns_r3 : List Ir := [⟨(some 5), none, .mov (.c (.int .i64 0))⟩]
@[simp] def c_law4_sameTxns_r4 : List Ir := [⟨(some 11), none, .mov (.t 5)⟩,
  ⟨(some 12), none, .mov (.t 0)⟩,
  ⟨(some 13), none, .lenV (.t 12)⟩,
  ⟨(some 14), none, .bin .lss 3 (.t 11) (.t 13)⟩]
@[simp] def c_law4_sameTxns_r5 : List Ir := [⟨(some 17), none, .mov (.t 0)⟩,
  ⟨(some 18), none, .mov (.t 5)⟩,
  ⟨(some 19), none, .iadrS 1 (.t 17) (.t 18)⟩,
  ⟨(some 20), none, .ld (.t 19)⟩,
  ⟨(some 21), none, .mov (.t 1)⟩,
  ⟨(some 22), none, .mov (.t 5)⟩,
  ⟨(some 23), none, .iadrS 1 (.t 21) (.t 22)⟩,
  ⟨(some 24), none, .ld (.t 23)⟩,
  ⟨(some 25), none, .call f_law0_SameImages [(.t 20), (.t 24)]⟩,
  ⟨(some 26), none, .un .not (.t 25)⟩]
@[simp] def c_law4_sameTxns_r6 : List Ir := [⟨(some 4), none, .mov (.c (.bool false))⟩]
@[simp] def c_law4_sameTxns_r7 : List Ir := [⟨(some 15), none, .mov (.t 5)⟩,
  ⟨(some 16), none, .bin .add 3 (.t 15) (.c (.int .i64 1))⟩,
  ⟨(some 5), none, .mov (.t 16)⟩]
def c_law4_sameTxns_l8 : IC := (.seq (.seq (.reg c_law4_sameTxns_r4) (.cond (.t 14) .skip (.exit 0))) (.seq (.block 1 (.seq (.regd c_law4_sameTxns_r5 []) (.cond (.t 26) (.seq (.reg c_law4_sameTxns_r6) .ret) .skip))) (.reg c_law4_sameTxns_r7)))
@[simp] def c_law4_sameTxns_r9 : List Ir := [⟨(some 4), none, .mov (.c (.bool true))⟩]
@[simp] def c_law4_sameTxns : IFn := ⟨(.seq (.reg c_law4_sameTxns_r0) (.seq (.seq (.reg c_law4_sameTxns_r1) (.cond (.t 10) (.seq (.reg c_law4_sameTxns_r2) .ret) .skip)) (.seq (.seq (.reg c_law4_sameTxns_r3) (.block 0 (.loop c_law4_sameTxns_l8))) (.seq (.reg c_law4_sameTxns_r9) .ret)))), 27, [.tmp 4]⟩
@[simp] def c_law0_SpoilRecords_r0 : List Ir := [⟨(some 2), none, .mov (.c (.int .i64 0))⟩]
@[simp] def c_law0_SpoilRecords_r1 : List Ir := [⟨(some 3), none, .mov (.t 2)⟩,
  ⟨(some 4), none, .mov (.t 0)⟩,
  ⟨(some 5), none, .lenV (.t 4)⟩,
  ⟨(some 6), none, .bin .lss 3 (.t 3) (.t 5)⟩]
@[simp] def c_law0_SpoilRecords_r2 : List Ir := [⟨(some 9), none, .mov (.t 0)⟩,
  ⟨(some 10), none, .mov (.t 2)⟩,
  ⟨(some 11), none, .mov (.t 0)⟩,
  ⟨(some 12), none, .mov (.t 2)⟩,
  ⟨(some 13), none, .iadrS 4 (.t 11) (.t 12)⟩,
  ⟨(some 14), none, .fadr 1 (.t 13)⟩,
  ⟨(some 15), none, .ld (.t 14)⟩,
  ⟨(some 16), none, .bin .xor 3 (.t 15) (.c (.int .i64 90))⟩,
  ⟨(some 17), none, .iadrS 4 (.t 9) (.t 10)⟩,
  ⟨(some 18), none, .fadr 1 (.t 17)⟩,
  ⟨none, none, .st 1 (.t 18) (.t 16)⟩]
@[simp] def c_law0_SpoilRecords_r3 : List Ir := [⟨(some 7), none, .mov (.t 2)⟩,
  ⟨(some 8), none, .bin .add 3 (.t 7) (.c (.int .i64 1))⟩,
  ⟨(some 2), none, .mov (.t 8)⟩]
def c_law0_SpoilRecords_l4 : IC := (.seq (.seq (.reg c_law0_SpoilRecords_r1) (.cond (.t 6) .skip (.exit 0))) (.seq (.block 1 (.reg c_law0_SpoilRecords_r2)) (.reg c_law0_SpoilRecords_r3)))
@[simp] def c_law0_SpoilRecords : IFn := ⟨(.seq (.reg c_law0_SpoilRecords_r0) (.block 0 (.loop c_law0_SpoilRecords_l4))), 19, []⟩
@[simp] def c_law0_SpoilImages_r0 : List Ir := [⟨(some 2), none, .mov (.c (.int .i64 0))⟩]
@[simp] def c_law0_SpoilImages_r1 : List Ir := [⟨(some 3), none, .mov (.t 2)⟩,
  ⟨(some 4), none, .mov (.t 0)⟩,
  ⟨(some 5), none, .lenV (.t 4)⟩,
  ⟨(some 6), none, .bin .lss 3 (.t 3) (.t 5)⟩]
@[simp] def c_law0_SpoilImages_r2 : List Ir := [⟨(some 9), none, .mov (.t 0)⟩,
  ⟨(some 10), none, .mov (.t 2)⟩,
  ⟨(some 11), none, .mov (.t 0)⟩,
  ⟨(some 12), none, .mov (.t 2)⟩,
  ⟨(some 13), none, .iadrS 2 (.t 11) (.t 12)⟩,
  ⟨(some 14), none, .fadr 0 (.t 13)⟩,
  ⟨(some 15), none, .ld (.t 14)⟩,
  ⟨(some 16), none, .bin .xor 3 (.t 15) (.c (.int .i64 90))⟩,
  ⟨(some 17), none, .iadrS 2 (.t 9) (.t 10)⟩,
  ⟨(some 18), none, .fadr 0 (.t 17)⟩,
  ⟨none, none, .st 1 (.t 18) (.t 16)⟩]
@[simp] def c_law0_SpoilImages_r3 : List Ir := [⟨(some 7), none, .mov (.t 2)⟩,
  ⟨(some 8), none, .bin .add 3 (.t 7) (.c (.int .i64 1))⟩,
  ⟨(some 2), none, .mov (.t 8)⟩]
def c_law0_SpoilImages_l4 : IC := (.seq (.seq (.reg c_law0_SpoilImages_r1) (.cond (.t 6) .skip (.exit 0))) (.seq (.block 1 (.reg c_law0_SpoilImages_r2)) (.reg c_law0_SpoilImages_r3)))
@[simp] def c_law0_SpoilImages : IFn := ⟨(.seq (.reg c_law0_SpoilImages_r0) (.block 0 (.loop c_law0_SpoilImages_l4))), 19, []⟩
@[simp] def c_law0_KeptImages_r0 : List Ir := [⟨(some 4), none, .mov (.c (.bool false))⟩]
@[simp] def c_law0_KeptImages_r1 : List Ir := [⟨(some 6), none, .mov (.t 0)⟩,
  ⟨(some 7), none, .mov (.t 0)⟩,
  ⟨(some 8), none, .lenV (.t 7)⟩,
  ⟨(some 9), none, .bin .add 3 (.t 8) (.c (.int .i64 2))⟩,
  ⟨(some 10), none, .slv 2 (.t 6) none (some (.t 9)) none⟩,
  ⟨(some 5), none, .mov (.t 10)⟩]
@[simp] def c_law0_KeptImages_r2 : List Ir := [⟨(some 11), none, .mov (.t 0)⟩,
  ⟨(some 12), none, .mov (.t 1)⟩,
  ⟨(some 13), none, .call f_law0_SameImages [(.t 11), (.t 12)]⟩,
  ⟨(some 14), none, .mov (.t 13)⟩,
  ⟨(some 15), (some (14, true)), .mov (.t 5)⟩,
  ⟨(some 16), (some (14, true)), .mov (.t 1)⟩,
  ⟨(some 17), (some (14, true)), .lenV (.t 16)⟩,
  ⟨(some 18), (some (14, true)), .iadrS 2 (.t 15) (.t 17)⟩,
  ⟨(some 19), (some (14, true)), .ldn 2 (.t 18)⟩,
  ⟨(some 20), (some (14, true)), .build [(.int .i64 0), (.string ⟨#[]⟩)] [(0, (1, (.c (.int .i64 77777))))]⟩,
  ⟨(some 21), (some (14, true)), .eqa false [.num .i64, .txt] (.t 19) (.t 20)⟩,
  ⟨(some 22), none, .pick (.t 14) (.t 21) (.c (.bool false))⟩,
  ⟨(some 23), none, .mov (.t 22)⟩,
  ⟨(some 24), (some (23, true)), .mov (.t 5)⟩,
  ⟨(some 25), (some (23, true)), .mov (.t 1)⟩,
  ⟨(some 26), (some (23, true)), .lenV (.t 25)⟩,
  ⟨(some 27), (some (23, true)), .bin .add 3 (.t 26) (.c (.int .i64 1))⟩,
  ⟨(some 28), (some (23, true)), .iadrS 2 (.t 24) (.t 27)⟩,
  ⟨(some 29), (some (23, true)), .ldn 2 (.t 28)⟩,
  ⟨(some 30), (some (23, true)), .build [(.int .i64 0), (.string ⟨#[]⟩)] [(0, (1, (.c (.int .i64 77777))))]⟩,
  ⟨(some 31), (some (23, true)), .eqa false [.num .i64, .txt] (.t 29) (.t 30)⟩,
  ⟨(some 32), none, .pick (.t 23) (.t 31) (.c (.bool false))⟩,
  ⟨(some 4), none, .mov (.t 32)⟩]
@[simp] def c_law0_KeptImages : IFn := ⟨(.seq (.reg c_law0_KeptImages_r0) (.seq (.reg c_law0_KeptImages_r1) (.seq (.reg c_law0_KeptImages_r2) .ret))), 33, [.tmp 4]⟩
@[simp] def c_law0_KeptTexts_r0 : List Ir := [⟨(some 4), none, .mov (.c (.bool false))⟩]
@[simp] def c_law0_KeptTexts_r1 : List Ir := [⟨(some 6), none, .mov (.t 0)⟩,
  ⟨(some 7), none, .mov (.t 0)⟩,
  ⟨(some 8), none, .lenV (.t 7)⟩,
  ⟨(some 9), none, .bin .add 3 (.t 8) (.c (.int .i64 2))⟩,
  ⟨(some 10), none, .slv 1 (.t 6) none (some (.t 9)) none⟩,
  ⟨(some 5), none, .mov (.t 10)⟩]
@[simp] def c_law0_KeptTexts_r2 : List Ir := [⟨(some 11), none, .mov (.t 0)⟩,
  ⟨(some 12), none, .mov (.t 1)⟩,
  ⟨(some 13), none, .call f_law0_SameTexts [(.t 11), (.t 12)]⟩,
  ⟨(some 14), none, .mov (.t 13)⟩,
  ⟨(some 15), (some (14, true)), .mov (.t 5)⟩,
  ⟨(some 16), (some (14, true)), .mov (.t 1)⟩,
  ⟨(some 17), (some (14, true)), .lenV (.t 16)⟩,
  ⟨(some 18), (some (14, true)), .iadrS 1 (.t 15) (.t 17)⟩,
  ⟨(some 19), (some (14, true)), .ld (.t 18)⟩,
  ⟨(some 20), (some (14, true)), .bin .eql 9 (.t 19) (.c (.string ⟨#[126, 114, 111, 111, 109]⟩))⟩,
  ⟨(some 21), none, .pick (.t 14) (.t 20) (.c (.bool false))⟩,
  ⟨(some 22), none, .mov (.t 21)⟩,
  ⟨(some 23), (some (22, true)), .mov (.t 5)⟩,
  ⟨(some 24), (some (22, true)), .mov (.t 1)⟩,
  ⟨(some 25), (some (22, true)), .lenV (.t 24)⟩,
  ⟨(some 26), (some (22, true)), .bin .add 3 (.t 25) (.c (.int .i64 1))⟩,
  ⟨(some 27), (some (22, true)), .iadrS 1 (.t 23) (.t 26)⟩,
  ⟨(some 28), (some (22, true)), .ld (.t 27)⟩,
  ⟨(some 29), (some (22, true)), .bin .eql 9 (.t 28) (.c (.string ⟨#[126, 98, 101, 104, 105, 110, 100]⟩))⟩,
  ⟨(some 30), none, .pick (.t 22) (.t 29) (.c (.bool false))⟩,
  ⟨(some 4), none, .mov (.t 30)⟩]
@[simp] def c_law0_KeptTexts : IFn := ⟨(.seq (.reg c_law0_KeptTexts_r0) (.seq (.reg c_law0_KeptTexts_r1) (.seq (.reg c_law0_KeptTexts_r2) .ret))), 31, [.tmp 4]⟩
@[simp] def c_law4_awake_r0 : List Ir := [⟨(some 0), none, .mov (.c (.bool false))⟩]
@[simp] def c_law4_awake_r1 : List Ir := [⟨(some 18), none, .build [(.int .i64 0), (.string ⟨#[]⟩)] [(0, (1, (.c (.int .i64 2)))), (1, (1, (.c (.string ⟨#[48, 49, 50, 51, 52, 53, 54, 55, 56, 57, 48, 49, 50, 51, 52, 53, 54, 55, 56, 57, 48, 49, 50, 51, 52, 53, 54, 55]⟩))))]⟩,
  ⟨(some 19), none, .build [(.int .i64 0), (.string ⟨#[]⟩)] [(0, (1, (.c (.int .i64 5))))]⟩,
  ⟨(some 20), none, .mkrow 2 2 [(.int .i64 0), (.string ⟨#[]⟩), (.int .i64 0), (.string ⟨#[]⟩)] [(0, (2, (.t 18))), (2, (2, (.t 19)))]⟩,
  ⟨(some 1), none, .mov (.t 20)⟩]
@[simp] def c_law4_awake_r2 : List Ir := [⟨(some 22), none, .mov (.t 1)⟩,
  ⟨(some 23), none, .call f_log_Make [(.t 22), (.c (.int .i64 7))]⟩,
  ⟨(some 21), none, .mov (.t 23)⟩,
  ⟨(some 24), none, .ext 0 (.t 21)⟩,
  ⟨(some 25), none, .ext 1 (.t 21)⟩,
  ⟨(some 2), none, .mov (.t 24)⟩,
  ⟨(some 3), none, .mov (.t 25)⟩]
@[simp] def c_law4_awake_r3 : List Ir := [⟨(some 27), none, .mov (.t 2)⟩,
  ⟨(some 28), none, .call f_law4_texts [(.t 27)]⟩,
  ⟨(some 29), none, .call f_log_Scan [(.t 28), (.c (.int .i64 7))]⟩,
  ⟨(some 26), none, .mov (.t 29)⟩,
  ⟨(some 30), none, .ext 0 (.t 26)⟩,
  ⟨(some 31), none, .ext 1 (.t 26)⟩,
  ⟨(some 32), none, .ext 2 (.t 26)⟩,
  ⟨(some 33), none, .ext 3 (.t 26)⟩,
  ⟨(some 4), none, .mov (.t 30)⟩,
  ⟨(some 5), none, .mov (.t 31)⟩,
  ⟨(some 6), none, .mov (.t 32)⟩,
  ⟨(some 7), none, .mov (.t 33)⟩]
@[simp] def c_law4_awake_r4 : List Ir := [⟨(some 35), none, .mov (.t 2)⟩,
  ⟨(some 36), none, .call f_law4_texts [(.t 35)]⟩,
  ⟨(some 37), none, .call f_log_Scan [(.t 36), (.c (.int .i64 8))]⟩,
  ⟨(some 34), none, .mov (.t 37)⟩,
  ⟨(some 38), none, .ext 0 (.t 34)⟩,
  ⟨(some 39), none, .ext 1 (.t 34)⟩,
  ⟨(some 40), none, .ext 2 (.t 34)⟩,
  ⟨(some 41), none, .ext 3 (.t 34)⟩,
  ⟨(some 8), none, .mov (.t 38)⟩,
  ⟨(some 9), none, .mov (.t 39)⟩,
  ⟨(some 10), none, .mov (.t 40)⟩,
  ⟨(some 11), none, .mov (.t 41)⟩]
@[simp] def c_law4_awake_r5 : List Ir := [⟨(some 43), none, .mov (.t 1)⟩,
  ⟨(some 44), none, .call f_log_Make [(.t 43), (.c (.int .i64 0))]⟩,
  ⟨(some 42), none, .mov (.t 44)⟩,
  ⟨(some 45), none, .ext 0 (.t 42)⟩,
  ⟨(some 46), none, .ext 1 (.t 42)⟩,
  ⟨(some 12), none, .mov (.t 45)⟩,
  ⟨(some 13), none, .mov (.t 46)⟩]
@[simp] def c_law4_awake_r6 : List Ir := [⟨(some 48), none, .call f_log_Scan [(.c (.slice none 0 0)), (.c (.int .i64 0))]⟩,
  ⟨(some 47), none, .mov (.t 48)⟩,
  ⟨(some 49), none, .ext 0 (.t 47)⟩,
  ⟨(some 50), none, .ext 1 (.t 47)⟩,
  ⟨(some 51), none, .ext 2 (.t 47)⟩,
  ⟨(some 52), none, .ext 3 (.t 47)⟩,
  ⟨(some 14), none, .mov (.t 49)⟩,
  ⟨(some 15), none, .mov (.t 50)⟩,
  ⟨(some 16), none, .mov (.t 51)⟩,
  ⟨(some 17), none, .mov (.t 52)⟩]
@[simp] def c_law4_awake_r7 : List Ir := [⟨(some 53), none, .mov (.t 2)⟩,
  ⟨(some 54), none, .lenV (.t 53)⟩,
  ⟨(some 55), none, .bin .eql 3 (.t 54) (.c (.int .i64 9))⟩,
  ⟨(some 56), none, .mov (.t 55)⟩,
  ⟨(some 57), (some (56, true)), .mov (.t 3)⟩,
  ⟨(some 58), (some (56, true)), .call f_law0_Num [(.t 57)]⟩,
  ⟨(some 59), (some (56, true)), .bin .eql 3 (.t 58) (.c (.int .i64 0))⟩,
  ⟨(some 60), none, .pick (.t 56) (.t 59) (.c (.bool false))⟩,
  ⟨(some 61), none, .mov (.t 60)⟩,
  ⟨(some 62), (some (61, true)), .mov (.t 4)⟩,
  ⟨(some 63), (some (61, true)), .mov (.t 1)⟩,
  ⟨(some 64), (some (61, true)), .mkrow 1 1 [(.slice none 0 0)] [(0, (1, (.t 63)))]⟩,
  ⟨(some 65), (some (61, true)), .call f_law4_sameTxns [(.t 62), (.t 64)]⟩,
  ⟨(some 66), none, .pick (.t 61) (.t 65) (.c (.bool false))⟩,
  ⟨(some 67), none, .mov (.t 66)⟩,
  ⟨(some 68), (some (67, true)), .mov (.t 5)⟩,
  ⟨(some 69), (some (67, true)), .bin .eql 3 (.t 68) (.c (.int .i64 16))⟩,
  ⟨(some 70), none, .pick (.t 67) (.t 69) (.c (.bool false))⟩,
  ⟨(some 71), none, .mov (.t 70)⟩,
  ⟨(some 72), (some (71, true)), .mov (.t 6)⟩,
  ⟨(some 73), (some (71, true)), .bin .eql 3 (.t 72) (.c (.int .i64 9))⟩,
  ⟨(some 74), none, .pick (.t 71) (.t 73) (.c (.bool false))⟩,
  ⟨(some 75), none, .mov (.t 74)⟩,
  ⟨(some 76), (some (75, true)), .mov (.t 7)⟩,
  ⟨(some 77), (some (75, true)), .call f_law0_Num [(.t 76)]⟩,
  ⟨(some 78), (some (75, true)), .bin .eql 3 (.t 77) (.c (.int .i64 0))⟩,
  ⟨(some 79), none, .pick (.t 75) (.t 78) (.c (.bool false))⟩,
  ⟨(some 80), none, .mov (.t 79)⟩,
  ⟨(some 81), (some (80, true)), .mov (.t 10)⟩,
  ⟨(some 82), (some (80, true)), .bin .eql 3 (.t 81) (.c (.int .i64 0))⟩,
  ⟨(some 83), none, .pick (.t 80) (.t 82) (.c (.bool false))⟩,
  ⟨(some 84), none, .mov (.t 83)⟩,
  ⟨(some 85), (some (84, true)), .mov (.t 11)⟩,
  ⟨(some 86), (some (84, true)), .call f_law0_Num [(.t 85)]⟩,
  ⟨(some 87), (some (84, true)), .bin .eql 3 (.t 86) (.c (.int .i64 0))⟩,
  ⟨(some 88), none, .pick (.t 84) (.t 87) (.c (.bool false))⟩,
  ⟨(some 89), none, .mov (.t 88)⟩,
  ⟨(some 90), (some (89, true)), .mov (.t 13)⟩,
  ⟨(some 91), (some (89, true)), .call f_law0_Num [(.t 90)]⟩,
  ⟨(some 92), (some (89, true)), .bin .eql 3 (.t 91) (.c (.int .i64 400))⟩,
  ⟨(some 93), none, .pick (.t 89) (.t 92) (.c (.bool false))⟩,
  ⟨(some 94), none, .mov (.t 93)⟩,
  ⟨(some 95), (some (94, true)), .mov (.t 17)⟩,
  ⟨(some 96), (some (94, true)), .call f_law0_Num [(.t 95)]⟩,
  ⟨(some 97), (some (94, true)), .bin .eql 3 (.t 96) (.c (.int .i64 400))⟩,
  ⟨(some 98), none, .pick (.t 94) (.t 97) (.c (.bool false))⟩,
  ⟨(some 0), none, .mov (.t 98)⟩]
@[simp] def c_law4_awake : IFn := ⟨(.seq (.reg c_law4_awake_r0) (.seq (.reg c_law4_awake_r1) (.seq (.reg c_law4_awake_r2) (.seq (.reg c_law4_awake_r3) (.seq (.reg c_law4_awake_r4) (.seq (.reg c_law4_awake_r5) (.seq (.reg c_law4_awake_r6) (.seq (.reg c_law4_awake_r7) .ret)))))))), 99, [.tmp 0]⟩
@[simp] def c_law4_texts_r0 : List Ir := [⟨(some 2), none, .mov (.c (.slice none 0 0))⟩]
@[simp] def c_law4_texts_r1 : List Ir := [⟨(some 3), none, .mov (.c (.slice none 0 0))⟩]
@[simp] def c_law4_texts_r2 : List Ir := [⟨(some 4), none, .mov (.c (.int .i64 0))⟩]
@[simp] def c_law4_texts_r3 : List Ir := [⟨(some 7), none, .mov (.t 4)⟩,
  ⟨(some 8), none, .mov (.t 0)⟩,
  ⟨(some 9), none, .lenV (.t 8)⟩,
  ⟨(some 10), none, .bin .lss 3 (.t 7) (.t 9)⟩]
@[simp] def c_law4_texts_r4 : List Ir := [⟨(some 14), none, .mov (.t 0)⟩,
  ⟨(some 15), none, .mov (.t 4)⟩,
  ⟨(some 16), none, .iadrS 4 (.t 14) (.t 15)⟩,
  ⟨(some 17), none, .ldn 4 (.t 16)⟩,
  ⟨(some 18), none, .call f_ref1_PutRecord [(.t 17)]⟩,
  ⟨(some 13), none, .mov (.t 18)⟩,
  ⟨(some 19), none, .ext 0 (.t 13)⟩,
  ⟨(some 20), none, .ext 1 (.t 13)⟩,
  ⟨(some 5), none, .mov (.t 19)⟩,
  ⟨(some 6), none, .mov (.t 20)⟩]
@[simp] def c_law4_texts_r5 : List Ir := [⟨(some 21), none, .mov (.t 3)⟩,
  ⟨(some 22), none, .mov (.t 5)⟩,
  ⟨(some 23), none, .mkrow 1 1 [(.string ⟨#[]⟩)] [(0, (1, (.t 22)))]⟩,
  ⟨(some 24), none, .app 1 16 (.t 21) (.t 23)⟩,
  ⟨(some 3), none, .mov (.t 24)⟩]
@[simp] def c_law4_texts_r6 : List Ir := [⟨(some 11), none, .mov (.t 4)⟩,
  ⟨(some 12), none, .bin .add 3 (.t 11) (.c (.int .i64 1))⟩,
  ⟨(some 4), none, .mov (.t 12)⟩]
def c_law4_texts_l7 : IC := (.seq (.seq (.reg c_law4_texts_r3) (.cond (.t 10) .skip (.exit 0))) (.seq (.block 1 (.seq (.reg c_law4_texts_r4) (.reg c_law4_texts_r5))) (.reg c_law4_texts_r6)))
@[simp] def c_law4_texts_r8 : List Ir := [⟨(some 25), none, .mov (.t 3)⟩,
  ⟨(some 2), none, .mov (.t 25)⟩]
@[simp] def c_law4_texts : IFn := ⟨(.seq (.reg c_law4_texts_r0) (.seq (.reg c_law4_texts_r1) (.seq (.seq (.reg c_law4_texts_r2) (.block 0 (.loop c_law4_texts_l7))) (.seq (.reg c_law4_texts_r8) .ret)))), 26, [.tmp 2]⟩
@[simp] def c_ref1_PutRecord_r0 : List Ir := [⟨(some 1), none, .box 4 (.t 0)⟩,
  ⟨(some 2), none, .mov (.c (.string ⟨#[]⟩))⟩,
  ⟨(some 3), none, .mov (.c (.int .i64 0))⟩]
@[simp] def c_ref1_PutRecord_r1 : List Ir := [⟨(some 4), none, .ldn 4 (.t 1)⟩,
  ⟨(some 5), none, .call f_ref1_RecordMay [(.t 4)]⟩,
  ⟨(some 6), none, .un .not (.t 5)⟩]
@[simp] def c_ref1_PutRecord_r2 : List Ir := [⟨(some 2), none, .mov (.c (.string ⟨#[]⟩))⟩,
  ⟨(some 3), none, .mov (.c (.int .i64 300))⟩]
@[simp] def c_ref1_PutRecord_r3 : List Ir := [⟨(some 7), none, .fadr 0 (.t 1)⟩,
  ⟨(some 8), none, .ld (.t 7)⟩,
  ⟨(some 10), none, .fadr 1 (.t 1)⟩,
  ⟨(some 11), none, .ld (.t 10)⟩,
  ⟨(some 12), none, .ii .u8 (.t 11)⟩,
  ⟨(some 13), none, .fadr 2 (.t 1)⟩,
  ⟨(some 14), none, .ld (.t 13)⟩,
  ⟨(some 15), none, .ii .u8 (.t 14)⟩,
  ⟨(some 16), none, .fadr 3 (.t 1)⟩,
  ⟨(some 17), none, .ld (.t 16)⟩,
  ⟨(some 18), none, .lenS (.t 17)⟩,
  ⟨(some 19), none, .ii .u8 (.t 18)⟩,
  ⟨(some 20), none, .mkrow 1 4 [(.int .u8 0), (.int .u8 0), (.int .u8 0), (.int .u8 0)] [(0, (1, (.t 12))), (1, (1, (.t 15))), (2, (1, (.t 19))), (3, (1, (.c (.int .u8 0))))]⟩,
  ⟨(some 21), none, .b2s (.t 20)⟩,
  ⟨(some 23), none, .fadr 3 (.t 1)⟩,
  ⟨(some 24), none, .ld (.t 23)⟩,
  ⟨(some 26), none, .fadr 3 (.t 1)⟩,
  ⟨(some 27), none, .ld (.t 26)⟩,
  ⟨(some 28), none, .lenS (.t 27)⟩,
  ⟨(some 29), none, .bin .sub 3 (.c (.int .i64 24)) (.t 28)⟩,
  ⟨(some 9), none, .call f_ref1_Num [(.t 8)]⟩,
  ⟨(some 22), none, .bin .add 9 (.t 9) (.t 21)⟩,
  ⟨(some 25), none, .bin .add 9 (.t 22) (.t 24)⟩,
  ⟨(some 30), none, .call f_ref1_zeros [(.t 29)]⟩,
  ⟨(some 31), none, .bin .add 9 (.t 25) (.t 30)⟩,
  ⟨(some 2), none, .mov (.t 31)⟩,
  ⟨(some 3), none, .mov (.c (.int .i64 0))⟩]
@[simp] def c_ref1_PutRecord : IFn := ⟨(.seq (.reg c_ref1_PutRecord_r0) (.seq (.seq (.reg c_ref1_PutRecord_r1) (.cond (.t 6) (.seq (.reg c_ref1_PutRecord_r2) .ret) .skip)) (.seq (.regd c_ref1_PutRecord_r3 [(3, 20), (6, 20), (9, 20), (13, 20), (15, 20), (17, 20), (3, 23), (6, 23), (9, 23), (13, 23), (15, 23)]) .ret))), 32, [.tmp 2, .tmp 3]⟩
@[simp] def c_law0_CopyImages_r0 : List Ir := [⟨(some 2), none, .mov (.c (.slice none 0 0))⟩]
@[simp] def c_law0_CopyImages_r1 : List Ir := [⟨(some 3), none, .mkrow 2 0 [] []⟩,
  ⟨(some 4), none, .mov (.t 0)⟩,
  ⟨(some 5), none, .app 2 24 (.t 3) (.t 4)⟩,
  ⟨(some 2), none, .mov (.t 5)⟩]
@[simp] def c_law0_CopyImages : IFn := ⟨(.seq (.reg c_law0_CopyImages_r0) (.seq (.reg c_law0_CopyImages_r1) .ret)), 6, [.tmp 2]⟩
@[simp] def c_law0_CopyTexts_r0 : List Ir := [⟨(some 2), none, .mov (.c (.slice none 0 0))⟩]
@[simp] def c_law0_CopyTexts_r1 : List Ir := [⟨(some 3), none, .mkrow 1 0 [] []⟩,
  ⟨(some 4), none, .mov (.t 0)⟩,
  ⟨(some 5), none, .app 1 16 (.t 3) (.t 4)⟩,
  ⟨(some 2), none, .mov (.t 5)⟩]
@[simp] def c_law0_CopyTexts : IFn := ⟨(.seq (.reg c_law0_CopyTexts_r0) (.seq (.reg c_law0_CopyTexts_r1) .ret)), 6, [.tmp 2]⟩
@[simp] def c_log_Images_r0 : List Ir := [⟨(some 2), none, .mov (.c (.bool false))⟩]
@[simp] def c_log_Images_r1 : List Ir := [⟨(some 3), none, .mov (.c (.int .i64 (-1)))⟩]
@[simp] def c_log_Images_r2 : List Ir := [⟨(some 6), none, .mov (.t 0)⟩,
  ⟨(some 7), none, .lenV (.t 6)⟩,
  ⟨(some 8), none, .mov (.c (.int .i64 0))⟩]
@[simp] def c_log_Images_r3 : List Ir := [⟨(some 9), none, .bin .lss 3 (.t 8) (.t 7)⟩]
@[simp] def c_log_Images_r4 : List Ir := [⟨(some 10), none, .iadrS 2 (.t 6) (.t 8)⟩,
  ⟨(some 11), none, .ldn 2 (.t 10)⟩,
  ⟨(some 5), none, .new [(.int .i64 0), (.string ⟨#[]⟩)]⟩,
  ⟨none, none, .st 2 (.t 5) (.t 11)⟩]
@[simp] def c_log_Images_r5 : List Ir := [⟨(some 12), none, .fadr 0 (.t 5)⟩,
  ⟨(some 13), none, .ld (.t 12)⟩,
  ⟨(some 14), none, .mov (.t 3)⟩,
  ⟨(some 15), none, .bin .leq 3 (.t 13) (.t 14)⟩,
  ⟨(some 16), none, .mov (.t 15)⟩,
  ⟨(some 17), (some (16, false)), .fadr 0 (.t 5)⟩,
  ⟨(some 18), (some (16, false)), .ld (.t 17)⟩,
  ⟨(some 19), (some (16, false)), .call f_record_Page [(.t 18)]⟩,
  ⟨(some 20), (some (16, false)), .un .not (.t 19)⟩,
  ⟨(some 21), none, .pick (.t 16) (.c (.bool true)) (.t 20)⟩,
  ⟨(some 22), none, .mov (.t 21)⟩,
  ⟨(some 23), (some (22, false)), .fadr 1 (.t 5)⟩,
  ⟨(some 24), (some (22, false)), .ld (.t 23)⟩,
  ⟨(some 25), (some (22, false)), .lenS (.t 24)⟩,
  ⟨(some 26), (some (22, false)), .bin .gtr 3 (.t 25) (.c (.int .i64 96))⟩,
  ⟨(some 27), none, .pick (.t 22) (.c (.bool true)) (.t 26)⟩]
@[simp] def c_log_Images_r6 : List Ir := [⟨(some 2), none, .mov (.c (.bool false))⟩]
@[simp] def c_log_Images_r7 : List Ir := [⟨(some 28), none, .fadr 0 (.t 5)⟩,
  ⟨(some 29), none, .ld (.t 28)⟩,
  ⟨(some 3), none, .mov (.t 29)⟩]
@[simp] def c_log_Images_r8 : List Ir := [⟨(some 30), none, .bin .add 3 (.t 8) (.c (.int .i64 1))⟩,
  ⟨(some 8), none, .mov (.t 30)⟩]
def c_log_Images_l9 : IC := (.seq (.reg c_log_Images_r3) (.seq (.cond (.t 9) .skip (.exit 0)) (.seq (.block 1 (.seq (.reg c_log_Images_r4) (.seq (.seq (.reg c_log_Images_r5) (.cond (.t 27) (.seq (.reg c_log_Images_r6) .ret) .skip)) (.reg c_log_Images_r7)))) (.reg c_log_Images_r8))))
@[simp] def c_log_Images_r10 : List Ir := [⟨(some 2), none, .mov (.c (.bool true))⟩]
@[simp] def c_log_Images : IFn := ⟨(.seq (.reg c_log_Images_r0) (.seq (.reg c_log_Images_r1) (.seq (.seq (.reg c_log_Images_r2) (.block 0 (.loop c_log_Images_l9))) (.seq (.reg c_log_Images_r10) .ret)))), 31, [.tmp 2]⟩
@[simp] def c_record_Seq_r0 : List Ir := [⟨(some 2), none, .mov (.c (.bool false))⟩]
@[simp] def c_record_Seq_r1 : List Ir := [⟨(some 3), none, .mov (.t 0)⟩,
  ⟨(some 4), none, .bin .geq 3 (.t 3) (.c (.int .i64 1))⟩,
  ⟨(some 5), none, .mov (.t 4)⟩,
  ⟨(some 6), (some (5, true)), .mov (.t 0)⟩,
  ⟨(some 7), (some (5, true)), .bin .leq 3 (.t 6) (.c (.int .i64 2147483647))⟩,
  ⟨(some 8), none, .pick (.t 5) (.t 7) (.c (.bool false))⟩,
  ⟨(some 2), none, .mov (.t 8)⟩]
@[simp] def c_record_Seq : IFn := ⟨(.seq (.reg c_record_Seq_r0) (.seq (.reg c_record_Seq_r1) .ret)), 9, [.tmp 2]⟩
@[simp] def c_log_Count_r0 : List Ir := [⟨(some 2), none, .mov (.c (.int .i64 0))⟩]
@[simp] def c_log_Count_r1 : List Ir := [⟨(some 3), none, .mov (.t 0)⟩,
  ⟨(some 4), none, .bin .mul 3 (.t 3) (.c (.int .i64 4))⟩,
  ⟨(some 5), none, .bin .add 3 (.t 4) (.c (.int .i64 1))⟩,
  ⟨(some 2), none, .mov (.t 5)⟩]
@[simp] def c_log_Count : IFn := ⟨(.seq (.reg c_log_Count_r0) (.seq (.reg c_log_Count_r1) .ret)), 6, [.tmp 2]⟩
@[simp] def c_log_Parts_r0 : List Ir := [⟨(some 3), none, .box 2 (.t 0)⟩,
  ⟨(some 6), none, .mov (.c (.slice none 0 0))⟩]
@[simp] def c_log_Parts_r1 : List Ir := [⟨(some 7), none, .mov (.c (.slice none 0 0))⟩]
@[simp] def c_log_Parts_r2 : List Ir := [⟨(some 11), none, .mov (.c (.int .i64 0))⟩]
@[simp] def c_log_Parts_r3 : List Ir := [⟨(some 12), none, .bin .lss 3 (.t 11) (.c (.int .i64 4))⟩]
@[simp] def c_log_Parts_r4 : List Ir := [⟨(some 13), none, .mov (.t 11)⟩,
  ⟨(some 8), none, .mov (.t 13)⟩]
@[simp] def c_log_Parts_r5 : List Ir := [⟨(some 14), none, .mov (.t 8)⟩,
  ⟨(some 15), none, .bin .mul 3 (.t 14) (.c (.int .i64 24))⟩,
  ⟨(some 16), none, .fadr 1 (.t 3)⟩,
  ⟨(some 17), none, .ld (.t 16)⟩,
  ⟨(some 18), none, .lenS (.t 17)⟩,
  ⟨(some 19), none, .mm false (.t 15) (.t 18)⟩,
  ⟨(some 9), none, .mov (.t 19)⟩]
@[simp] def c_log_Parts_r6 : List Ir := [⟨(some 20), none, .mov (.t 9)⟩,
  ⟨(some 21), none, .bin .add 3 (.t 20) (.c (.int .i64 24))⟩,
  ⟨(some 22), none, .fadr 1 (.t 3)⟩,
  ⟨(some 23), none, .ld (.t 22)⟩,
  ⟨(some 24), none, .lenS (.t 23)⟩,
  ⟨(some 25), none, .mm false (.t 21) (.t 24)⟩,
  ⟨(some 10), none, .mov (.t 25)⟩]
@[simp] def c_log_Parts_r7 : List Ir := [⟨(some 26), none, .mov (.t 7)⟩,
  ⟨(some 27), none, .mov (.t 1)⟩,
  ⟨(some 28), none, .mov (.t 2)⟩,
  ⟨(some 29), none, .mov (.t 8)⟩,
  ⟨(some 30), none, .bin .mul 3 (.t 28) (.t 29)⟩,
  ⟨(some 31), none, .bin .add 3 (.t 27) (.t 30)⟩,
  ⟨(some 32), none, .fadr 0 (.t 3)⟩,
  ⟨(some 33), none, .ld (.t 32)⟩,
  ⟨(some 34), none, .mov (.t 8)⟩,
  ⟨(some 35), none, .fadr 1 (.t 3)⟩,
  ⟨(some 36), none, .ld (.t 35)⟩,
  ⟨(some 37), none, .mov (.t 9)⟩,
  ⟨(some 38), none, .mov (.t 10)⟩,
  ⟨(some 39), none, .sls (.t 36) (some (.t 37)) (some (.t 38))⟩,
  ⟨(some 40), none, .build [(.int .i64 0), (.int .i64 0), (.int .i64 0), (.string ⟨#[]⟩)] [(0, (1, (.t 31))), (1, (1, (.t 33))), (2, (1, (.t 34))), (3, (1, (.t 39)))]⟩,
  ⟨(some 41), none, .mkrow 4 1 [(.int .i64 0), (.int .i64 0), (.int .i64 0), (.string ⟨#[]⟩)] [(0, (4, (.t 40)))]⟩,
  ⟨(some 42), none, .app 4 40 (.t 26) (.t 41)⟩,
  ⟨(some 7), none, .mov (.t 42)⟩]
@[simp] def c_log_Parts_r8 : List Ir := [⟨(some 43), none, .bin .add 3 (.t 11) (.c (.int .i64 1))⟩,
  ⟨(some 11), none, .mov (.t 43)⟩]
def c_log_Parts_l9 : IC := (.seq (.reg c_log_Parts_r3) (.seq (.cond (.t 12) .skip (.exit 0)) (.seq (.block 1 (.seq (.reg c_log_Parts_r4) (.seq (.reg c_log_Parts_r5) (.seq (.reg c_log_Parts_r6) (.regd c_log_Parts_r7 []))))) (.reg c_log_Parts_r8))))
@[simp] def c_log_Parts_r10 : List Ir := [⟨(some 44), none, .mov (.t 7)⟩,
  ⟨(some 6), none, .mov (.t 44)⟩]
@[simp] def c_log_Parts : IFn := ⟨(.seq (.reg c_log_Parts_r0) (.seq (.reg c_log_Parts_r1) (.seq (.seq (.reg c_log_Parts_r2) (.block 0 (.loop c_log_Parts_l9))) (.seq (.reg c_log_Parts_r10) .ret)))), 45, [.tmp 6]⟩
@[simp] def c_ref1_ImagesMay_r0 : List Ir := [⟨(some 2), none, .mov (.c (.bool false))⟩]
@[simp] def c_ref1_ImagesMay_r1 : List Ir := [⟨(some 3), none, .mov (.c (.int .i64 0))⟩]
@[simp] def c_ref1_ImagesMay_r2 : List Ir := [⟨(some 4), none, .mov (.t 3)⟩,
  ⟨(some 5), none, .mov (.t 0)⟩,
  ⟨(some 6), none, .lenV (.t 5)⟩,
  ⟨(some 7), none, .bin .lss 3 (.t 4) (.t 6)⟩]
@[simp] def c_ref1_ImagesMay_r3 : List Ir := [⟨(some 10), none, .mov (.t 0)⟩,
  ⟨(some 11), none, .mov (.t 3)⟩,
  ⟨(some 12), none, .iadrS 2 (.t 10) (.t 11)⟩,
  ⟨(some 13), none, .fadr 0 (.t 12)⟩,
  ⟨(some 14), none, .ld (.t 13)⟩,
  ⟨(some 15), none, .bin .lss 3 (.t 14) (.c (.int .i64 0))⟩,
  ⟨(some 16), none, .mov (.t 15)⟩,
  ⟨(some 17), (some (16, false)), .mov (.t 0)⟩,
  ⟨(some 18), (some (16, false)), .mov (.t 3)⟩,
  ⟨(some 19), (some (16, false)), .iadrS 2 (.t 17) (.t 18)⟩,
  ⟨(some 20), (some (16, false)), .fadr 0 (.t 19)⟩,
  ⟨(some 21), (some (16, false)), .ld (.t 20)⟩,
  ⟨(some 22), (some (16, false)), .bin .geq 3 (.t 21) (.c (.int .i64 48))⟩,
  ⟨(some 23), none, .pick (.t 16) (.c (.bool true)) (.t 22)⟩,
  ⟨(some 24), none, .mov (.t 23)⟩,
  ⟨(some 25), (some (24, false)), .mov (.t 0)⟩,
  ⟨(some 26), (some (24, false)), .mov (.t 3)⟩,
  ⟨(some 27), (some (24, false)), .iadrS 2 (.t 25) (.t 26)⟩,
  ⟨(some 28), (some (24, false)), .fadr 1 (.t 27)⟩,
  ⟨(some 29), (some (24, false)), .ld (.t 28)⟩,
  ⟨(some 30), (some (24, false)), .call f_ref1_textMay [(.t 29)]⟩,
  ⟨(some 31), (some (24, false)), .un .not (.t 30)⟩,
  ⟨(some 32), none, .pick (.t 24) (.c (.bool true)) (.t 31)⟩,
  ⟨(some 33), none, .mov (.t 32)⟩,
  ⟨(some 34), (some (33, false)), .mov (.t 3)⟩,
  ⟨(some 35), (some (33, false)), .bin .gtr 3 (.t 34) (.c (.int .i64 0))⟩,
  ⟨(some 36), (some (33, false)), .mov (.t 35)⟩,
  ⟨(some 37), (some (36, true)), .mov (.t 0)⟩,
  ⟨(some 38), (some (36, true)), .mov (.t 3)⟩,
  ⟨(some 39), (some (36, true)), .iadrS 2 (.t 37) (.t 38)⟩,
  ⟨(some 40), (some (36, true)), .fadr 0 (.t 39)⟩,
  ⟨(some 41), (some (36, true)), .ld (.t 40)⟩,
  ⟨(some 42), (some (36, true)), .mov (.t 0)⟩,
  ⟨(some 43), (some (36, true)), .mov (.t 3)⟩,
  ⟨(some 44), (some (36, true)), .bin .sub 3 (.t 43) (.c (.int .i64 1))⟩,
  ⟨(some 45), (some (36, true)), .iadrS 2 (.t 42) (.t 44)⟩,
  ⟨(some 46), (some (36, true)), .fadr 0 (.t 45)⟩,
  ⟨(some 47), (some (36, true)), .ld (.t 46)⟩,
  ⟨(some 48), (some (36, true)), .bin .leq 3 (.t 41) (.t 47)⟩,
  ⟨(some 49), (some (33, false)), .pick (.t 36) (.t 48) (.c (.bool false))⟩,
  ⟨(some 50), none, .pick (.t 33) (.c (.bool true)) (.t 49)⟩]
@[simp] def c_ref1_ImagesMay_r4 : List Ir := [⟨(some 2), none, .mov (.c (.bool false))⟩]
@[simp] def c_ref1_ImagesMay_r5 : List Ir := [⟨(some 8), none, .mov (.t 3)⟩,
  ⟨(some 9), none, .bin .add 3 (.t 8) (.c (.int .i64 1))⟩,
  ⟨(some 3), none, .mov (.t 9)⟩]
def c_ref1_ImagesMay_l6 : IC := (.seq (.seq (.reg c_ref1_ImagesMay_r2) (.cond (.t 7) .skip (.exit 0))) (.seq (.block 1 (.seq (.regd c_ref1_ImagesMay_r3 []) (.cond (.t 50) (.seq (.reg c_ref1_ImagesMay_r4) .ret) .skip))) (.reg c_ref1_ImagesMay_r5)))
@[simp] def c_ref1_ImagesMay_r7 : List Ir := [⟨(some 51), none, .mov (.t 0)⟩,
  ⟨(some 52), none, .lenV (.t 51)⟩,
  ⟨(some 53), none, .bin .leq 3 (.t 52) (.c (.int .i64 48))⟩,
  ⟨(some 2), none, .mov (.t 53)⟩]
@[simp] def c_ref1_ImagesMay : IFn := ⟨(.seq (.reg c_ref1_ImagesMay_r0) (.seq (.seq (.reg c_ref1_ImagesMay_r1) (.block 0 (.loop c_ref1_ImagesMay_l6))) (.seq (.reg c_ref1_ImagesMay_r7) .ret))), 54, [.tmp 2]⟩
@[simp] def c_ref1_seqMay_r0 : List Ir := [⟨(some 2), none, .mov (.c (.bool false))⟩]
@[simp] def c_ref1_seqMay_r1 : List Ir := [⟨(some 3), none, .mov (.t 0)⟩,
  ⟨(some 4), none, .bin .geq 3 (.t 3) (.c (.int .i64 1))⟩,
  ⟨(some 5), none, .mov (.t 4)⟩,
  ⟨(some 6), (some (5, true)), .mov (.t 0)⟩,
  ⟨(some 7), (some (5, true)), .bin .leq 3 (.t 6) (.c (.int .i64 2147483647))⟩,
  ⟨(some 8), none, .pick (.t 5) (.t 7) (.c (.bool false))⟩,
  ⟨(some 2), none, .mov (.t 8)⟩]
@[simp] def c_ref1_seqMay : IFn := ⟨(.seq (.reg c_ref1_seqMay_r0) (.seq (.reg c_ref1_seqMay_r1) .ret)), 9, [.tmp 2]⟩
@[simp] def c_ref1_part_r0 : List Ir := [⟨(some 4), none, .mov (.c (.string ⟨#[]⟩))⟩]
@[simp] def c_ref1_part_r1 : List Ir := [⟨(some 5), none, .mov (.t 0)⟩,
  ⟨(some 6), none, .mov (.t 0)⟩,
  ⟨(some 7), none, .lenS (.t 6)⟩,
  ⟨(some 8), none, .mov (.t 1)⟩,
  ⟨(some 9), none, .bin .mul 3 (.t 8) (.c (.int .i64 24))⟩,
  ⟨(some 10), none, .mm false (.t 7) (.t 9)⟩,
  ⟨(some 11), none, .mov (.t 0)⟩,
  ⟨(some 12), none, .lenS (.t 11)⟩,
  ⟨(some 13), none, .mov (.t 1)⟩,
  ⟨(some 14), none, .bin .add 3 (.t 13) (.c (.int .i64 1))⟩,
  ⟨(some 15), none, .bin .mul 3 (.t 14) (.c (.int .i64 24))⟩,
  ⟨(some 16), none, .mm false (.t 12) (.t 15)⟩,
  ⟨(some 17), none, .sls (.t 5) (some (.t 10)) (some (.t 16))⟩,
  ⟨(some 4), none, .mov (.t 17)⟩]
@[simp] def c_ref1_part : IFn := ⟨(.seq (.reg c_ref1_part_r0) (.seq (.reg c_ref1_part_r1) .ret)), 18, [.tmp 4]⟩
@[simp] def c_record_Get_r0 : List Ir := [⟨(some 2), none, .new [(.int .i64 0), (.int .i64 0), (.int .i64 0), (.string ⟨#[]⟩)]⟩,
  ⟨(some 3), none, .mov (.c (.int .i64 0))⟩]
@[simp] def c_record_Get_r1 : List Ir := [⟨(some 7), none, .mov (.t 0)⟩,
  ⟨(some 8), none, .lenS (.t 7)⟩,
  ⟨(some 9), none, .bin .neq 3 (.t 8) (.c (.int .i64 32))⟩,
  ⟨(some 10), none, .mov (.t 9)⟩,
  ⟨(some 11), (some (10, false)), .mov (.t 0)⟩,
  ⟨(some 12), (some (10, false)), .idxS (.t 11) (.c (.int .i64 6))⟩,
  ⟨(some 13), (some (10, false)), .ii .i64 (.t 12)⟩,
  ⟨(some 14), (some (10, false)), .bin .gtr 3 (.t 13) (.c (.int .i64 24))⟩,
  ⟨(some 15), none, .pick (.t 10) (.c (.bool true)) (.t 14)⟩]
@[simp] def c_record_Get_r2 : List Ir := [⟨(some 16), none, .build [(.int .i64 0), (.int .i64 0), (.int .i64 0), (.string ⟨#[]⟩)] []⟩,
  ⟨none, none, .st 4 (.t 2) (.t 16)⟩,
  ⟨(some 3), none, .mov (.c (.int .i64 300))⟩]
@[simp] def c_record_Get_r3 : List Ir := [⟨(some 17), none, .mov (.t 0)⟩,
  ⟨(some 19), none, .mov (.t 0)⟩,
  ⟨(some 20), none, .idxS (.t 19) (.c (.int .i64 4))⟩,
  ⟨(some 21), none, .ii .i64 (.t 20)⟩,
  ⟨(some 22), none, .mov (.t 0)⟩,
  ⟨(some 23), none, .idxS (.t 22) (.c (.int .i64 5))⟩,
  ⟨(some 24), none, .ii .i64 (.t 23)⟩,
  ⟨(some 25), none, .mov (.t 0)⟩,
  ⟨(some 26), none, .mov (.t 0)⟩,
  ⟨(some 27), none, .idxS (.t 26) (.c (.int .i64 6))⟩,
  ⟨(some 28), none, .ii .i64 (.t 27)⟩,
  ⟨(some 29), none, .bin .add 3 (.c (.int .i64 8)) (.t 28)⟩,
  ⟨(some 30), none, .sls (.t 25) (some (.c (.int .i64 8))) (some (.t 29))⟩,
  ⟨(some 4), none, .new [(.int .i64 0), (.int .i64 0), (.int .i64 0), (.string ⟨#[]⟩)]⟩,
  ⟨(some 18), none, .call f_record_Number [(.t 17)]⟩,
  ⟨(some 31), none, .build [(.int .i64 0), (.int .i64 0), (.int .i64 0), (.string ⟨#[]⟩)] [(0, (1, (.t 18))), (1, (1, (.t 21))), (2, (1, (.t 24))), (3, (1, (.t 30)))]⟩,
  ⟨none, none, .st 4 (.t 4) (.t 31)⟩]
@[simp] def c_record_Get_r4 : List Ir := [⟨(some 33), none, .ldn 4 (.t 4)⟩,
  ⟨(some 34), none, .call f_record_Put [(.t 33)]⟩,
  ⟨(some 32), none, .mov (.t 34)⟩,
  ⟨(some 35), none, .ext 0 (.t 32)⟩,
  ⟨(some 36), none, .ext 1 (.t 32)⟩,
  ⟨(some 5), none, .mov (.t 35)⟩,
  ⟨(some 6), none, .mov (.t 36)⟩]
@[simp] def c_record_Get_r5 : List Ir := [⟨(some 37), none, .mov (.t 6)⟩,
  ⟨(some 38), none, .bin .neq 27 (.t 37) (.c (.int .i64 0))⟩,
  ⟨(some 39), none, .mov (.t 38)⟩,
  ⟨(some 40), (some (39, false)), .mov (.t 5)⟩,
  ⟨(some 41), (some (39, false)), .mov (.t 0)⟩,
  ⟨(some 42), (some (39, false)), .bin .neq 9 (.t 40) (.t 41)⟩,
  ⟨(some 43), none, .pick (.t 39) (.c (.bool true)) (.t 42)⟩]
@[simp] def c_record_Get_r6 : List Ir := [⟨(some 44), none, .build [(.int .i64 0), (.int .i64 0), (.int .i64 0), (.string ⟨#[]⟩)] []⟩,
  ⟨none, none, .st 4 (.t 2) (.t 44)⟩,
  ⟨(some 3), none, .mov (.c (.int .i64 300))⟩]
@[simp] def c_record_Get_r7 : List Ir := [⟨(some 45), none, .ldn 4 (.t 4)⟩,
  ⟨none, none, .st 4 (.t 2) (.t 45)⟩,
  ⟨(some 3), none, .mov (.c (.int .i64 0))⟩]
@[simp] def c_record_Get : IFn := ⟨(.seq (.reg c_record_Get_r0) (.seq (.seq (.reg c_record_Get_r1) (.cond (.t 15) (.seq (.reg c_record_Get_r2) .ret) .skip)) (.seq (.regd c_record_Get_r3 []) (.seq (.seq (.reg c_record_Get_r4) (.seq (.reg c_record_Get_r5) (.cond (.t 43) (.seq (.reg c_record_Get_r6) .ret) .skip))) (.seq (.reg c_record_Get_r7) .ret))))), 46, [.ldn 2 4, .tmp 3]⟩
@[simp] def c_log_scanner_take_r0 : List Ir := [⟨(some 4), none, .box 4 (.t 1)⟩,
  ⟨(some 6), none, .mov (.c (.bool false))⟩]
@[simp] def c_log_scanner_take_r1 : List Ir := [⟨(some 8), none, .fadr 2 (.t 4)⟩,
  ⟨(some 9), none, .ld (.t 8)⟩,
  ⟨(some 10), none, .bin .eql 3 (.t 9) (.c (.int .i64 4))⟩]
@[simp] def c_log_scanner_take_r2 : List Ir := [⟨(some 11), none, .mov (.t 0)⟩,
  ⟨(some 12), none, .mov (.t 2)⟩,
  ⟨(some 13), none, .call f_log_scanner_commit [(.t 11), (.t 12)]⟩,
  ⟨(some 6), none, .mov (.t 13)⟩]
@[simp] def c_log_scanner_take_r3 : List Ir := [⟨(some 14), none, .fadr 2 (.t 4)⟩,
  ⟨(some 15), none, .ld (.t 14)⟩,
  ⟨(some 16), none, .mov (.t 0)⟩,
  ⟨(some 17), none, .nilck (.t 16)⟩,
  ⟨(some 18), none, .fadr 3 (.t 17)⟩,
  ⟨(some 19), none, .ld (.t 18)⟩,
  ⟨(some 20), none, .bin .neq 3 (.t 15) (.t 19)⟩]
@[simp] def c_log_scanner_take_r4 : List Ir := [⟨(some 6), none, .mov (.c (.bool false))⟩]
@[simp] def c_log_scanner_take_r5 : List Ir := [⟨(some 21), none, .mov (.t 0)⟩,
  ⟨(some 22), none, .nilck (.t 21)⟩,
  ⟨(some 23), none, .fadr 2 (.t 22)⟩,
  ⟨(some 24), none, .ld (.t 23)⟩,
  ⟨(some 25), none, .lenV (.t 24)⟩,
  ⟨(some 7), none, .mov (.t 25)⟩]
@[simp] def c_log_scanner_take_r6 : List Ir := [⟨(some 26), none, .fadr 2 (.t 4)⟩,
  ⟨(some 27), none, .ld (.t 26)⟩,
  ⟨(some 28), none, .bin .eql 3 (.t 27) (.c (.int .i64 0))⟩]
@[simp] def c_log_scanner_take_r7 : List Ir := [⟨(some 29), none, .mov (.t 7)⟩,
  ⟨(some 30), none, .bin .gtr 3 (.t 29) (.c (.int .i64 0))⟩,
  ⟨(some 31), none, .mov (.t 30)⟩,
  ⟨(some 32), (some (31, true)), .mov (.t 0)⟩,
  ⟨(some 33), (some (31, true)), .nilck (.t 32)⟩,
  ⟨(some 34), (some (31, true)), .fadr 2 (.t 33)⟩,
  ⟨(some 35), (some (31, true)), .ld (.t 34)⟩,
  ⟨(some 36), (some (31, true)), .mov (.t 7)⟩,
  ⟨(some 37), (some (31, true)), .bin .sub 3 (.t 36) (.c (.int .i64 1))⟩,
  ⟨(some 38), (some (31, true)), .iadrS 2 (.t 35) (.t 37)⟩,
  ⟨(some 39), (some (31, true)), .fadr 0 (.t 38)⟩,
  ⟨(some 40), (some (31, true)), .ld (.t 39)⟩,
  ⟨(some 41), (some (31, true)), .fadr 1 (.t 4)⟩,
  ⟨(some 42), (some (31, true)), .ld (.t 41)⟩,
  ⟨(some 43), (some (31, true)), .bin .geq 3 (.t 40) (.t 42)⟩,
  ⟨(some 44), none, .pick (.t 31) (.t 43) (.c (.bool false))⟩]
@[simp] def c_log_scanner_take_r8 : List Ir := [⟨(some 6), none, .mov (.c (.bool false))⟩]
@[simp] def c_log_scanner_take_r9 : List Ir := [⟨(some 45), none, .mov (.t 0)⟩,
  ⟨(some 46), none, .mov (.t 0)⟩,
  ⟨(some 47), none, .nilck (.t 46)⟩,
  ⟨(some 48), none, .fadr 2 (.t 47)⟩,
  ⟨(some 49), none, .ld (.t 48)⟩,
  ⟨(some 50), none, .fadr 1 (.t 4)⟩,
  ⟨(some 51), none, .ld (.t 50)⟩,
  ⟨(some 52), none, .build [(.int .i64 0), (.string ⟨#[]⟩)] [(0, (1, (.t 51)))]⟩,
  ⟨(some 53), none, .mkrow 2 1 [(.int .i64 0), (.string ⟨#[]⟩)] [(0, (2, (.t 52)))]⟩,
  ⟨(some 54), none, .app 2 24 (.t 49) (.t 53)⟩,
  ⟨(some 55), none, .nilck (.t 45)⟩,
  ⟨(some 56), none, .fadr 2 (.t 55)⟩,
  ⟨none, none, .st 1 (.t 56) (.t 54)⟩]
@[simp] def c_log_scanner_take_r10 : List Ir := [⟨(some 57), none, .mov (.t 0)⟩,
  ⟨(some 58), none, .nilck (.t 57)⟩,
  ⟨(some 59), none, .fadr 2 (.t 58)⟩,
  ⟨(some 60), none, .ld (.t 59)⟩,
  ⟨(some 61), none, .mov (.t 7)⟩,
  ⟨(some 62), none, .bin .sub 3 (.t 61) (.c (.int .i64 1))⟩,
  ⟨(some 63), none, .iadrS 2 (.t 60) (.t 62)⟩,
  ⟨(some 64), none, .fadr 0 (.t 63)⟩,
  ⟨(some 65), none, .ld (.t 64)⟩,
  ⟨(some 66), none, .fadr 1 (.t 4)⟩,
  ⟨(some 67), none, .ld (.t 66)⟩,
  ⟨(some 68), none, .bin .neq 3 (.t 65) (.t 67)⟩,
  ⟨(some 69), none, .mov (.t 68)⟩,
  ⟨(some 70), (some (69, false)), .mov (.t 0)⟩,
  ⟨(some 71), (some (69, false)), .nilck (.t 70)⟩,
  ⟨(some 72), (some (69, false)), .fadr 4 (.t 71)⟩,
  ⟨(some 73), (some (69, false)), .ld (.t 72)⟩,
  ⟨(some 74), (some (69, false)), .un .not (.t 73)⟩,
  ⟨(some 75), (some (69, false)), .mov (.t 74)⟩,
  ⟨(some 76), (some (75, true)), .fadr 3 (.t 4)⟩,
  ⟨(some 77), (some (75, true)), .ld (.t 76)⟩,
  ⟨(some 78), (some (75, true)), .bin .neq 9 (.t 77) (.c (.string ⟨#[]⟩))⟩,
  ⟨(some 79), (some (69, false)), .pick (.t 75) (.t 78) (.c (.bool false))⟩,
  ⟨(some 80), none, .pick (.t 69) (.c (.bool true)) (.t 79)⟩]
@[simp] def c_log_scanner_take_r11 : List Ir := [⟨(some 6), none, .mov (.c (.bool false))⟩]
@[simp] def c_log_scanner_take_r12 : List Ir := [⟨(some 81), none, .mov (.t 0)⟩,
  ⟨(some 82), none, .nilck (.t 81)⟩,
  ⟨(some 83), none, .fadr 2 (.t 82)⟩,
  ⟨(some 84), none, .ld (.t 83)⟩,
  ⟨(some 85), none, .mov (.t 0)⟩,
  ⟨(some 86), none, .nilck (.t 85)⟩,
  ⟨(some 87), none, .fadr 2 (.t 86)⟩,
  ⟨(some 88), none, .ld (.t 87)⟩,
  ⟨(some 89), none, .lenV (.t 88)⟩,
  ⟨(some 90), none, .bin .sub 3 (.t 89) (.c (.int .i64 1))⟩,
  ⟨(some 91), none, .iadrS 2 (.t 84) (.t 90)⟩,
  ⟨(some 92), none, .fadr 1 (.t 91)⟩,
  ⟨(some 93), none, .ld (.t 92)⟩,
  ⟨(some 94), none, .fadr 3 (.t 4)⟩,
  ⟨(some 95), none, .ld (.t 94)⟩,
  ⟨(some 96), none, .bin .add 9 (.t 93) (.t 95)⟩,
  ⟨(some 97), none, .iadrS 2 (.t 84) (.t 90)⟩,
  ⟨(some 98), none, .fadr 1 (.t 97)⟩,
  ⟨none, none, .st 1 (.t 98) (.t 96)⟩]
@[simp] def c_log_scanner_take_r13 : List Ir := [⟨(some 99), none, .mov (.t 0)⟩,
  ⟨(some 100), none, .mov (.t 0)⟩,
  ⟨(some 101), none, .fadr 2 (.t 4)⟩,
  ⟨(some 102), none, .ld (.t 101)⟩,
  ⟨(some 103), none, .bin .add 3 (.t 102) (.c (.int .i64 1))⟩,
  ⟨(some 104), none, .bin .rem 3 (.t 103) (.c (.int .i64 4))⟩,
  ⟨(some 105), none, .fadr 3 (.t 4)⟩,
  ⟨(some 106), none, .ld (.t 105)⟩,
  ⟨(some 107), none, .lenS (.t 106)⟩,
  ⟨(some 108), none, .bin .eql 3 (.t 107) (.c (.int .i64 24))⟩,
  ⟨(some 109), none, .nilck (.t 99)⟩,
  ⟨(some 110), none, .fadr 3 (.t 109)⟩,
  ⟨none, none, .st 1 (.t 110) (.t 104)⟩,
  ⟨(some 111), none, .nilck (.t 100)⟩,
  ⟨(some 112), none, .fadr 4 (.t 111)⟩,
  ⟨none, none, .st 1 (.t 112) (.t 108)⟩]
@[simp] def c_log_scanner_take_r14 : List Ir := [⟨(some 6), none, .mov (.c (.bool true))⟩]
@[simp] def c_log_scanner_take : IFn := ⟨(.seq (.reg c_log_scanner_take_r0) (.seq (.seq (.reg c_log_scanner_take_r1) (.cond (.t 10) (.seq (.reg c_log_scanner_take_r2) .ret) .skip)) (.seq (.seq (.regd c_log_scanner_take_r3 []) (.cond (.t 20) (.seq (.reg c_log_scanner_take_r4) .ret) .skip)) (.seq (.seq (.reg c_log_scanner_take_r5) (.seq (.reg c_log_scanner_take_r6) (.cond (.t 28) (.seq (.seq (.regd c_log_scanner_take_r7 []) (.cond (.t 44) (.seq (.reg c_log_scanner_take_r8) .ret) .skip)) (.regd c_log_scanner_take_r9 [])) (.seq (.regd c_log_scanner_take_r10 []) (.cond (.t 80) (.seq (.reg c_log_scanner_take_r11) .ret) .skip))))) (.seq (.regd c_log_scanner_take_r12 []) (.seq (.regd c_log_scanner_take_r13 [(7, 12)]) (.seq (.reg c_log_scanner_take_r14) .ret))))))), 113, [.tmp 6]⟩
@[simp] def c_ref1_one_r0 : List Ir := [⟨(some 4), none, .mov (.c (.slice none 0 0))⟩,
  ⟨(some 5), none, .mov (.c (.int .i64 0))⟩]
@[simp] def c_ref1_one_r1 : List Ir := [⟨(some 6), none, .mov (.c (.slice none 0 0))⟩]
@[simp] def c_ref1_one_r2 : List Ir := [⟨(some 7), none, .mov (.c (.int .i64 0))⟩]
@[simp] def c_ref1_one_r3 : List Ir := [⟨(some 10), none, .mov (.t 7)⟩,
  ⟨(some 11), none, .mov (.t 0)⟩,
  ⟨(some 12), none, .lenV (.t 11)⟩,
  ⟨(some 13), none, .bin .lss 3 (.t 10) (.t 12)⟩]
@[simp] def c_ref1_one_r4 : List Ir := [⟨(some 17), none, .mov (.t 0)⟩,
  ⟨(some 18), none, .mov (.t 7)⟩,
  ⟨(some 19), none, .iadrS 1 (.t 17) (.t 18)⟩,
  ⟨(some 20), none, .ld (.t 19)⟩,
  ⟨(some 21), none, .call f_ref1_GetRecord [(.t 20)]⟩,
  ⟨(some 16), none, .mov (.t 21)⟩,
  ⟨(some 22), none, .ext 0 (.t 16)⟩,
  ⟨(some 23), none, .ext 1 (.t 16)⟩,
  ⟨(some 8), none, .new [(.int .i64 0), (.int .i64 0), (.int .i64 0), (.string ⟨#[]⟩)]⟩,
  ⟨none, none, .st 4 (.t 8) (.t 22)⟩,
  ⟨(some 9), none, .mov (.t 23)⟩]
@[simp] def c_ref1_one_r5 : List Ir := [⟨(some 24), none, .mov (.t 9)⟩,
  ⟨(some 25), none, .bin .neq 3 (.t 24) (.c (.int .i64 0))⟩,
  ⟨(some 26), none, .mov (.t 25)⟩,
  ⟨(some 27), (some (26, false)), .fadr 0 (.t 8)⟩,
  ⟨(some 28), (some (26, false)), .ld (.t 27)⟩,
  ⟨(some 29), (some (26, false)), .mov (.t 1)⟩,
  ⟨(some 30), (some (26, false)), .mov (.t 7)⟩,
  ⟨(some 31), (some (26, false)), .bin .add 3 (.t 29) (.t 30)⟩,
  ⟨(some 32), (some (26, false)), .bin .neq 3 (.t 28) (.t 31)⟩,
  ⟨(some 33), none, .pick (.t 26) (.c (.bool true)) (.t 32)⟩]
@[simp] def c_ref1_one_r6 : List Ir := [⟨(some 4), none, .mov (.c (.slice none 0 0))⟩,
  ⟨(some 5), none, .mov (.c (.int .i64 0))⟩]
@[simp] def c_ref1_one_r7 : List Ir := [⟨(some 34), none, .fadr 2 (.t 8)⟩,
  ⟨(some 35), none, .ld (.t 34)⟩,
  ⟨(some 36), none, .bin .eql 3 (.t 35) (.c (.int .i64 4))⟩,
  ⟨(some 37), none, .mov (.t 36)⟩,
  ⟨(some 38), (some (37, true)), .mov (.t 7)⟩,
  ⟨(some 39), (some (37, true)), .bin .rem 3 (.t 38) (.c (.int .i64 4))⟩,
  ⟨(some 40), (some (37, true)), .bin .eql 3 (.t 39) (.c (.int .i64 0))⟩,
  ⟨(some 41), none, .pick (.t 37) (.t 40) (.c (.bool false))⟩]
@[simp] def c_ref1_one_r8 : List Ir := [⟨(some 42), none, .mov (.t 6)⟩,
  ⟨(some 43), none, .mov (.t 7)⟩,
  ⟨(some 44), none, .bin .add 3 (.t 43) (.c (.int .i64 1))⟩,
  ⟨(some 4), none, .mov (.t 42)⟩,
  ⟨(some 5), none, .mov (.t 44)⟩]
@[simp] def c_ref1_one_r9 : List Ir := [⟨(some 45), none, .fadr 2 (.t 8)⟩,
  ⟨(some 46), none, .ld (.t 45)⟩,
  ⟨(some 47), none, .mov (.t 7)⟩,
  ⟨(some 48), none, .bin .rem 3 (.t 47) (.c (.int .i64 4))⟩,
  ⟨(some 49), none, .bin .neq 3 (.t 46) (.t 48)⟩]
@[simp] def c_ref1_one_r10 : List Ir := [⟨(some 4), none, .mov (.c (.slice none 0 0))⟩,
  ⟨(some 5), none, .mov (.c (.int .i64 0))⟩]
@[simp] def c_ref1_one_r11 : List Ir := [⟨(some 67), none, .fadr 2 (.t 8)⟩,
  ⟨(some 68), none, .ld (.t 67)⟩,
  ⟨(some 69), none, .bin .gtr 3 (.t 68) (.c (.int .i64 0))⟩,
  ⟨(some 70), none, .mov (.t 69)⟩,
  ⟨(some 71), (some (70, true)), .fadr 1 (.t 8)⟩,
  ⟨(some 72), (some (70, true)), .ld (.t 71)⟩,
  ⟨(some 73), (some (70, true)), .mov (.t 6)⟩,
  ⟨(some 74), (some (70, true)), .mov (.t 6)⟩,
  ⟨(some 75), (some (70, true)), .lenV (.t 74)⟩,
  ⟨(some 76), (some (70, true)), .bin .sub 3 (.t 75) (.c (.int .i64 1))⟩,
  ⟨(some 77), (some (70, true)), .iadrS 2 (.t 73) (.t 76)⟩,
  ⟨(some 78), (some (70, true)), .fadr 0 (.t 77)⟩,
  ⟨(some 79), (some (70, true)), .ld (.t 78)⟩,
  ⟨(some 80), (some (70, true)), .bin .neq 3 (.t 72) (.t 79)⟩,
  ⟨(some 81), none, .pick (.t 70) (.t 80) (.c (.bool false))⟩,
  ⟨(some 82), none, .mov (.t 81)⟩,
  ⟨(some 83), (some (82, false)), .fadr 2 (.t 8)⟩,
  ⟨(some 84), (some (82, false)), .ld (.t 83)⟩,
  ⟨(some 85), (some (82, false)), .bin .eql 3 (.t 84) (.c (.int .i64 0))⟩,
  ⟨(some 86), (some (82, false)), .mov (.t 85)⟩,
  ⟨(some 87), (some (86, true)), .mov (.t 6)⟩,
  ⟨(some 88), (some (86, true)), .lenV (.t 87)⟩,
  ⟨(some 89), (some (86, true)), .bin .gtr 3 (.t 88) (.c (.int .i64 0))⟩,
  ⟨(some 90), (some (82, false)), .pick (.t 86) (.t 89) (.c (.bool false))⟩,
  ⟨(some 91), (some (82, false)), .mov (.t 90)⟩,
  ⟨(some 92), (some (91, true)), .fadr 1 (.t 8)⟩,
  ⟨(some 93), (some (91, true)), .ld (.t 92)⟩,
  ⟨(some 94), (some (91, true)), .mov (.t 6)⟩,
  ⟨(some 95), (some (91, true)), .mov (.t 6)⟩,
  ⟨(some 96), (some (91, true)), .lenV (.t 95)⟩,
  ⟨(some 97), (some (91, true)), .bin .sub 3 (.t 96) (.c (.int .i64 1))⟩,
  ⟨(some 98), (some (91, true)), .iadrS 2 (.t 94) (.t 97)⟩,
  ⟨(some 99), (some (91, true)), .fadr 0 (.t 98)⟩,
  ⟨(some 100), (some (91, true)), .ld (.t 99)⟩,
  ⟨(some 101), (some (91, true)), .bin .leq 3 (.t 93) (.t 100)⟩,
  ⟨(some 102), (some (82, false)), .pick (.t 91) (.t 101) (.c (.bool false))⟩,
  ⟨(some 103), none, .pick (.t 82) (.c (.bool true)) (.t 102)⟩,
  ⟨(some 66), none, .mov (.t 103)⟩]
@[simp] def c_ref1_one_r12 : List Ir := [⟨(some 4), none, .mov (.c (.slice none 0 0))⟩,
  ⟨(some 5), none, .mov (.c (.int .i64 0))⟩]
@[simp] def c_ref1_one_r13 : List Ir := [⟨(some 105), none, .fadr 2 (.t 8)⟩,
  ⟨(some 106), none, .ld (.t 105)⟩,
  ⟨(some 107), none, .bin .eql 3 (.t 106) (.c (.int .i64 0))⟩,
  ⟨(some 104), none, .mov (.t 107)⟩]
@[simp] def c_ref1_one_r14 : List Ir := [⟨(some 108), none, .mov (.t 6)⟩,
  ⟨(some 109), none, .fadr 1 (.t 8)⟩,
  ⟨(some 110), none, .ld (.t 109)⟩,
  ⟨(some 111), none, .fadr 3 (.t 8)⟩,
  ⟨(some 112), none, .ld (.t 111)⟩,
  ⟨(some 113), none, .build [(.int .i64 0), (.string ⟨#[]⟩)] [(0, (1, (.t 110))), (1, (1, (.t 112)))]⟩,
  ⟨(some 114), none, .mkrow 2 1 [(.int .i64 0), (.string ⟨#[]⟩)] [(0, (2, (.t 113)))]⟩,
  ⟨(some 115), none, .app 2 24 (.t 108) (.t 114)⟩,
  ⟨(some 6), none, .mov (.t 115)⟩]
@[simp] def c_ref1_one_r15 : List Ir := [⟨(some 117), none, .fadr 3 (.t 8)⟩,
  ⟨(some 118), none, .ld (.t 117)⟩,
  ⟨(some 119), none, .bin .neq 9 (.t 118) (.c (.string ⟨#[]⟩))⟩,
  ⟨(some 120), none, .mov (.t 119)⟩,
  ⟨(some 121), (some (120, true)), .mov (.t 6)⟩,
  ⟨(some 122), (some (120, true)), .mov (.t 6)⟩,
  ⟨(some 123), (some (120, true)), .lenV (.t 122)⟩,
  ⟨(some 124), (some (120, true)), .bin .sub 3 (.t 123) (.c (.int .i64 1))⟩,
  ⟨(some 125), (some (120, true)), .iadrS 2 (.t 121) (.t 124)⟩,
  ⟨(some 126), (some (120, true)), .fadr 1 (.t 125)⟩,
  ⟨(some 127), (some (120, true)), .ld (.t 126)⟩,
  ⟨(some 128), (some (120, true)), .lenS (.t 127)⟩,
  ⟨(some 129), (some (120, true)), .fadr 2 (.t 8)⟩,
  ⟨(some 130), (some (120, true)), .ld (.t 129)⟩,
  ⟨(some 131), (some (120, true)), .bin .mul 3 (.t 130) (.c (.int .i64 24))⟩,
  ⟨(some 132), (some (120, true)), .bin .neq 3 (.t 128) (.t 131)⟩,
  ⟨(some 133), none, .pick (.t 120) (.t 132) (.c (.bool false))⟩,
  ⟨(some 116), none, .mov (.t 133)⟩]
@[simp] def c_ref1_one_r16 : List Ir := [⟨(some 4), none, .mov (.c (.slice none 0 0))⟩,
  ⟨(some 5), none, .mov (.c (.int .i64 0))⟩]
@[simp] def c_ref1_one_r17 : List Ir := [⟨(some 50), none, .mov (.t 6)⟩,
  ⟨(some 51), none, .mov (.t 6)⟩,
  ⟨(some 52), none, .lenV (.t 51)⟩,
  ⟨(some 53), none, .bin .sub 3 (.t 52) (.c (.int .i64 1))⟩,
  ⟨(some 54), none, .mov (.t 6)⟩,
  ⟨(some 55), none, .mov (.t 6)⟩,
  ⟨(some 56), none, .lenV (.t 55)⟩,
  ⟨(some 57), none, .bin .sub 3 (.t 56) (.c (.int .i64 1))⟩,
  ⟨(some 58), none, .iadrS 2 (.t 54) (.t 57)⟩,
  ⟨(some 59), none, .fadr 1 (.t 58)⟩,
  ⟨(some 60), none, .ld (.t 59)⟩,
  ⟨(some 61), none, .fadr 3 (.t 8)⟩,
  ⟨(some 62), none, .ld (.t 61)⟩,
  ⟨(some 63), none, .bin .add 9 (.t 60) (.t 62)⟩,
  ⟨(some 64), none, .iadrS 2 (.t 50) (.t 53)⟩,
  ⟨(some 65), none, .fadr 1 (.t 64)⟩,
  ⟨none, none, .st 1 (.t 65) (.t 63)⟩]
@[simp] def c_ref1_one_r18 : List Ir := [⟨(some 14), none, .mov (.t 7)⟩,
  ⟨(some 15), none, .bin .add 3 (.t 14) (.c (.int .i64 1))⟩,
  ⟨(some 7), none, .mov (.t 15)⟩]
def c_ref1_one_l19 : IC := (.seq (.seq (.reg c_ref1_one_r3) (.cond (.t 13) .skip (.exit 0))) (.seq (.block 1 (.seq (.reg c_ref1_one_r4) (.seq (.seq (.reg c_ref1_one_r5) (.cond (.t 33) (.seq (.reg c_ref1_one_r6) .ret) .skip)) (.seq (.seq (.reg c_ref1_one_r7) (.cond (.t 41) (.seq (.reg c_ref1_one_r8) .ret) .skip)) (.seq (.seq (.reg c_ref1_one_r9) (.cond (.t 49) (.seq (.reg c_ref1_one_r10) .ret) .skip)) (.block 2 (.seq (.regd c_ref1_one_r11 []) (.cond (.t 66) (.seq (.reg c_ref1_one_r12) .ret) (.seq (.reg c_ref1_one_r13) (.cond (.t 104) (.reg c_ref1_one_r14) (.seq (.regd c_ref1_one_r15 []) (.cond (.t 116) (.seq (.reg c_ref1_one_r16) .ret) (.regd c_ref1_one_r17 []))))))))))))) (.reg c_ref1_one_r18)))
@[simp] def c_ref1_one_r20 : List Ir := [⟨(some 4), none, .mov (.c (.slice none 0 0))⟩,
  ⟨(some 5), none, .mov (.c (.int .i64 0))⟩]
@[simp] def c_ref1_one : IFn := ⟨(.seq (.reg c_ref1_one_r0) (.seq (.reg c_ref1_one_r1) (.seq (.seq (.reg c_ref1_one_r2) (.block 0 (.loop c_ref1_one_l19))) (.seq (.reg c_ref1_one_r20) .ret)))), 134, [.tmp 4, .tmp 5]⟩
@[simp] def c_law0_SameImages_r0 : List Ir := [⟨(some 4), none, .mov (.c (.bool false))⟩]
@[simp] def c_law0_SameImages_r1 : List Ir := [⟨(some 6), none, .mov (.t 0)⟩,
  ⟨(some 7), none, .lenV (.t 6)⟩,
  ⟨(some 8), none, .mov (.t 1)⟩,
  ⟨(some 9), none, .lenV (.t 8)⟩,
  ⟨(some 10), none, .bin .neq 3 (.t 7) (.t 9)⟩]
@[simp] def c_law0_SameImages_r2 : List Ir := [⟨(some 4), none, .mov (.c (.bool false))⟩]
@[simp] def c_law0_SameImages_r3 : List Ir := [⟨(some 5), none, .mov (.c (.int .i64 0))⟩]
@[simp] def c_law0_SameImages_r4 : List Ir := [⟨(some 11), none, .mov (.t 5)⟩,
  ⟨(some 12), none, .mov (.t 0)⟩,
  ⟨(some 13), none, .lenV (.t 12)⟩,
  ⟨(some 14), none, .bin .lss 3 (.t 11) (.t 13)⟩]
@[simp] def c_law0_SameImages_r5 : List Ir := [⟨(some 17), none, .mov (.t 0)⟩,
  ⟨(some 18), none, .mov (.t 5)⟩,
  ⟨(some 19), none, .iadrS 2 (.t 17) (.t 18)⟩,
  ⟨(some 20), none, .ldn 2 (.t 19)⟩,
  ⟨(some 21), none, .mov (.t 1)⟩,
  ⟨(some 22), none, .mov (.t 5)⟩,
  ⟨(some 23), none, .iadrS 2 (.t 21) (.t 22)⟩,
  ⟨(some 24), none, .ldn 2 (.t 23)⟩,
  ⟨(some 25), none, .eqa true [.num .i64, .txt] (.t 20) (.t 24)⟩]
@[simp] def c_law0_SameImages_r6 : List Ir := [⟨(some 4), none, .mov (.c (.bool false))⟩]
@[simp] def c_law0_SameImages_r7 : List Ir := [⟨(some 15), none, .mov (.t 5)⟩,
  ⟨(some 16), none, .bin .add 3 (.t 15) (.c (.int .i64 1))⟩,
  ⟨(some 5), none, .mov (.t 16)⟩]
def c_law0_SameImages_l8 : IC := (.seq (.seq (.reg c_law0_SameImages_r4) (.cond (.t 14) .skip (.exit 0))) (.seq (.block 1 (.seq (.regd c_law0_SameImages_r5 []) (.cond (.t 25) (.seq (.reg c_law0_SameImages_r6) .ret) .skip))) (.reg c_law0_SameImages_r7)))
@[simp] def c_law0_SameImages_r9 : List Ir := [⟨(some 4), none, .mov (.c (.bool true))⟩]
@[simp] def c_law0_SameImages : IFn := ⟨(.seq (.reg c_law0_SameImages_r0) (.seq (.seq (.reg c_law0_SameImages_r1) (.cond (.t 10) (.seq (.reg c_law0_SameImages_r2) .ret) .skip)) (.seq (.seq (.reg c_law0_SameImages_r3) (.block 0 (.loop c_law0_SameImages_l8))) (.seq (.reg c_law0_SameImages_r9) .ret)))), 26, [.tmp 4]⟩
@[simp] def c_law0_SameTexts_r0 : List Ir := [⟨(some 4), none, .mov (.c (.bool false))⟩]
@[simp] def c_law0_SameTexts_r1 : List Ir := [⟨(some 6), none, .mov (.t 0)⟩,
  ⟨(some 7), none, .lenV (.t 6)⟩,
  ⟨(some 8), none, .mov (.t 1)⟩,
  ⟨(some 9), none, .lenV (.t 8)⟩,
  ⟨(some 10), none, .bin .neq 3 (.t 7) (.t 9)⟩]
@[simp] def c_law0_SameTexts_r2 : List Ir := [⟨(some 4), none, .mov (.c (.bool false))⟩]
@[simp] def c_law0_SameTexts_r3 : List Ir := [⟨(some 5), none, .mov (.c (.int .i64 0))⟩]
@[simp] def c_law0_SameTexts_r4 : List Ir := [⟨(some 11), none, .mov (.t 5)⟩,
  ⟨(some 12), none, .mov (.t 0)⟩,
  ⟨(some 13), none, .lenV (.t 12)⟩,
  ⟨(some 14), none, .bin .lss 3 (.t 11) (.t 13)⟩]
@[simp] def c_law0_SameTexts_r5 : List Ir := [⟨(some 17), none, .mov (.t 0)⟩,
  ⟨(some 18), none, .mov (.t 5)⟩,
  ⟨(some 19), none, .iadrS 1 (.t 17) (.t 18)⟩,
  ⟨(some 20), none, .ld (.t 19)⟩,
  ⟨(some 21), none, .mov (.t 1)⟩,
  ⟨(some 22), none, .mov (.t 5)⟩,
  ⟨(some 23), none, .iadrS 1 (.t 21) (.t 22)⟩,
  ⟨(some 24), none, .ld (.t 23)⟩,
  ⟨(some 25), none, .bin .neq 9 (.t 20) (.t 24)⟩]
@[simp] def c_law0_SameTexts_r6 : List Ir := [⟨(some 4), none, .mov (.c (.bool false))⟩]
@[simp] def c_law0_SameTexts_r7 : List Ir := [⟨(some 15), none, .mov (.t 5)⟩,
  ⟨(some 16), none, .bin .add 3 (.t 15) (.c (.int .i64 1))⟩,
  ⟨(some 5), none, .mov (.t 16)⟩]
def c_law0_SameTexts_l8 : IC := (.seq (.seq (.reg c_law0_SameTexts_r4) (.cond (.t 14) .skip (.exit 0))) (.seq (.block 1 (.seq (.regd c_law0_SameTexts_r5 []) (.cond (.t 25) (.seq (.reg c_law0_SameTexts_r6) .ret) .skip))) (.reg c_law0_SameTexts_r7)))
@[simp] def c_law0_SameTexts_r9 : List Ir := [⟨(some 4), none, .mov (.c (.bool true))⟩]
@[simp] def c_law0_SameTexts : IFn := ⟨(.seq (.reg c_law0_SameTexts_r0) (.seq (.seq (.reg c_law0_SameTexts_r1) (.cond (.t 10) (.seq (.reg c_law0_SameTexts_r2) .ret) .skip)) (.seq (.seq (.reg c_law0_SameTexts_r3) (.block 0 (.loop c_law0_SameTexts_l8))) (.seq (.reg c_law0_SameTexts_r9) .ret)))), 26, [.tmp 4]⟩
@[simp] def c_ref1_RecordMay_r0 : List Ir := [⟨(some 1), none, .box 4 (.t 0)⟩,
  ⟨(some 2), none, .mov (.c (.bool false))⟩]
@[simp] def c_ref1_RecordMay_r1 : List Ir := [⟨(some 3), none, .fadr 0 (.t 1)⟩,
  ⟨(some 4), none, .ld (.t 3)⟩,
  ⟨(some 5), none, .call f_ref1_seqMay [(.t 4)]⟩,
  ⟨(some 6), none, .un .not (.t 5)⟩,
  ⟨(some 7), none, .mov (.t 6)⟩,
  ⟨(some 8), (some (7, false)), .fadr 1 (.t 1)⟩,
  ⟨(some 9), (some (7, false)), .ld (.t 8)⟩,
  ⟨(some 10), (some (7, false)), .bin .lss 3 (.t 9) (.c (.int .i64 0))⟩,
  ⟨(some 11), none, .pick (.t 7) (.c (.bool true)) (.t 10)⟩,
  ⟨(some 12), none, .mov (.t 11)⟩,
  ⟨(some 13), (some (12, false)), .fadr 1 (.t 1)⟩,
  ⟨(some 14), (some (12, false)), .ld (.t 13)⟩,
  ⟨(some 15), (some (12, false)), .bin .geq 3 (.t 14) (.c (.int .i64 48))⟩,
  ⟨(some 16), none, .pick (.t 12) (.c (.bool true)) (.t 15)⟩,
  ⟨(some 17), none, .mov (.t 16)⟩,
  ⟨(some 18), (some (17, false)), .fadr 2 (.t 1)⟩,
  ⟨(some 19), (some (17, false)), .ld (.t 18)⟩,
  ⟨(some 20), (some (17, false)), .bin .lss 3 (.t 19) (.c (.int .i64 0))⟩,
  ⟨(some 21), none, .pick (.t 17) (.c (.bool true)) (.t 20)⟩,
  ⟨(some 22), none, .mov (.t 21)⟩,
  ⟨(some 23), (some (22, false)), .fadr 2 (.t 1)⟩,
  ⟨(some 24), (some (22, false)), .ld (.t 23)⟩,
  ⟨(some 25), (some (22, false)), .bin .gtr 3 (.t 24) (.c (.int .i64 4))⟩,
  ⟨(some 26), none, .pick (.t 22) (.c (.bool true)) (.t 25)⟩,
  ⟨(some 27), none, .mov (.t 26)⟩,
  ⟨(some 28), (some (27, false)), .fadr 3 (.t 1)⟩,
  ⟨(some 29), (some (27, false)), .ld (.t 28)⟩,
  ⟨(some 30), (some (27, false)), .lenS (.t 29)⟩,
  ⟨(some 31), (some (27, false)), .bin .gtr 3 (.t 30) (.c (.int .i64 24))⟩,
  ⟨(some 32), none, .pick (.t 27) (.c (.bool true)) (.t 31)⟩]
@[simp] def c_ref1_RecordMay_r2 : List Ir := [⟨(some 2), none, .mov (.c (.bool false))⟩]
@[simp] def c_ref1_RecordMay_r3 : List Ir := [⟨(some 33), none, .fadr 2 (.t 1)⟩,
  ⟨(some 34), none, .ld (.t 33)⟩,
  ⟨(some 35), none, .bin .lss 3 (.t 34) (.c (.int .i64 4))⟩,
  ⟨(some 36), none, .mov (.t 35)⟩,
  ⟨(some 37), (some (36, false)), .fadr 1 (.t 1)⟩,
  ⟨(some 38), (some (36, false)), .ld (.t 37)⟩,
  ⟨(some 39), (some (36, false)), .bin .eql 3 (.t 38) (.c (.int .i64 0))⟩,
  ⟨(some 40), (some (36, false)), .mov (.t 39)⟩,
  ⟨(some 41), (some (40, true)), .fadr 3 (.t 1)⟩,
  ⟨(some 42), (some (40, true)), .ld (.t 41)⟩,
  ⟨(some 43), (some (40, true)), .bin .eql 9 (.t 42) (.c (.string ⟨#[]⟩))⟩,
  ⟨(some 44), (some (36, false)), .pick (.t 40) (.t 43) (.c (.bool false))⟩,
  ⟨(some 45), none, .pick (.t 36) (.c (.bool true)) (.t 44)⟩,
  ⟨(some 2), none, .mov (.t 45)⟩]
@[simp] def c_ref1_RecordMay : IFn := ⟨(.seq (.reg c_ref1_RecordMay_r0) (.seq (.seq (.reg c_ref1_RecordMay_r1) (.cond (.t 32) (.seq (.reg c_ref1_RecordMay_r2) .ret) .skip)) (.seq (.reg c_ref1_RecordMay_r3) .ret))), 46, [.tmp 2]⟩
@[simp] def c_ref1_Num_r0 : List Ir := [⟨(some 2), none, .mov (.c (.string ⟨#[]⟩))⟩]
@[simp] def c_ref1_Num_r1 : List Ir := [⟨(some 3), none, .mov (.t 0)⟩,
  ⟨(some 4), none, .bin .shr 3 (.t 3) (.c (.int .u64 24))⟩,
  ⟨(some 5), none, .ii .u8 (.t 4)⟩,
  ⟨(some 6), none, .mov (.t 0)⟩,
  ⟨(some 7), none, .bin .shr 3 (.t 6) (.c (.int .u64 16))⟩,
  ⟨(some 8), none, .ii .u8 (.t 7)⟩,
  ⟨(some 9), none, .mov (.t 0)⟩,
  ⟨(some 10), none, .bin .shr 3 (.t 9) (.c (.int .u64 8))⟩,
  ⟨(some 11), none, .ii .u8 (.t 10)⟩,
  ⟨(some 12), none, .mov (.t 0)⟩,
  ⟨(some 13), none, .ii .u8 (.t 12)⟩,
  ⟨(some 14), none, .mkrow 1 4 [(.int .u8 0), (.int .u8 0), (.int .u8 0), (.int .u8 0)] [(0, (1, (.t 5))), (1, (1, (.t 8))), (2, (1, (.t 11))), (3, (1, (.t 13)))]⟩,
  ⟨(some 15), none, .b2s (.t 14)⟩,
  ⟨(some 2), none, .mov (.t 15)⟩]
@[simp] def c_ref1_Num : IFn := ⟨(.seq (.reg c_ref1_Num_r0) (.seq (.reg c_ref1_Num_r1) .ret)), 16, [.tmp 2]⟩
@[simp] def c_ref1_zeros_r0 : List Ir := [⟨(some 2), none, .mov (.c (.string ⟨#[]⟩))⟩]
@[simp] def c_ref1_zeros_r1 : List Ir := [⟨(some 3), none, .mov (.t 0)⟩,
  ⟨(some 4), none, .mks 1 1 [(.int .u8 0)] (.t 3) (.t 3)⟩,
  ⟨(some 5), none, .b2s (.t 4)⟩,
  ⟨(some 2), none, .mov (.t 5)⟩]
@[simp] def c_ref1_zeros : IFn := ⟨(.seq (.reg c_ref1_zeros_r0) (.seq (.reg c_ref1_zeros_r1) .ret)), 6, [.tmp 2]⟩
@[simp] def c_law0_SpoilTexts_r0 : List Ir := [⟨(some 2), none, .mov (.c (.int .i64 0))⟩]
@[simp] def c_law0_SpoilTexts_r1 : List Ir := [⟨(some 3), none, .mov (.t 2)⟩,
  ⟨(some 4), none, .mov (.t 0)⟩,
  ⟨(some 5), none, .lenV (.t 4)⟩,
  ⟨(some 6), none, .bin .lss 3 (.t 3) (.t 5)⟩]
@[simp] def c_law0_SpoilTexts_r2 : List Ir := [⟨(some 9), none, .mov (.t 0)⟩,
  ⟨(some 10), none, .mov (.t 2)⟩,
  ⟨(some 11), none, .mov (.t 0)⟩,
  ⟨(some 12), none, .mov (.t 2)⟩,
  ⟨(some 13), none, .iadrS 1 (.t 11) (.t 12)⟩,
  ⟨(some 14), none, .ld (.t 13)⟩,
  ⟨(some 15), none, .bin .add 9 (.c (.string ⟨#[126]⟩)) (.t 14)⟩,
  ⟨(some 16), none, .iadrS 1 (.t 9) (.t 10)⟩,
  ⟨none, none, .st 1 (.t 16) (.t 15)⟩]
@[simp] def c_law0_SpoilTexts_r3 : List Ir := [⟨(some 7), none, .mov (.t 2)⟩,
  ⟨(some 8), none, .bin .add 3 (.t 7) (.c (.int .i64 1))⟩,
  ⟨(some 2), none, .mov (.t 8)⟩]
def c_law0_SpoilTexts_l4 : IC := (.seq (.seq (.reg c_law0_SpoilTexts_r1) (.cond (.t 6) .skip (.exit 0))) (.seq (.block 1 (.reg c_law0_SpoilTexts_r2)) (.reg c_law0_SpoilTexts_r3)))
@[simp] def c_law0_SpoilTexts : IFn := ⟨(.seq (.reg c_law0_SpoilTexts_r0) (.block 0 (.loop c_law0_SpoilTexts_l4))), 17, []⟩
@[simp] def c_record_Page_r0 : List Ir := [⟨(some 2), none, .mov (.c (.bool false))⟩]
@[simp] def c_record_Page_r1 : List Ir := [⟨(some 3), none, .mov (.t 0)⟩,
  ⟨(some 4), none, .bin .geq 3 (.t 3) (.c (.int .i64 0))⟩,
  ⟨(some 5), none, .mov (.t 4)⟩,
  ⟨(some 6), (some (5, true)), .mov (.t 0)⟩,
  ⟨(some 7), (some (5, true)), .bin .lss 3 (.t 6) (.c (.int .i64 48))⟩,
  ⟨(some 8), none, .pick (.t 5) (.t 7) (.c (.bool false))⟩,
  ⟨(some 2), none, .mov (.t 8)⟩]
@[simp] def c_record_Page : IFn := ⟨(.seq (.reg c_record_Page_r0) (.seq (.reg c_record_Page_r1) .ret)), 9, [.tmp 2]⟩
@[simp] def c_ref1_textMay_r0 : List Ir := [⟨(some 2), none, .mov (.c (.bool false))⟩]
@[simp] def c_ref1_textMay_r1 : List Ir := [⟨(some 3), none, .mov (.t 0)⟩,
  ⟨(some 4), none, .lenS (.t 3)⟩,
  ⟨(some 5), none, .bin .leq 3 (.t 4) (.c (.int .i64 96))⟩,
  ⟨(some 2), none, .mov (.t 5)⟩]
@[simp] def c_ref1_textMay : IFn := ⟨(.seq (.reg c_ref1_textMay_r0) (.seq (.reg c_ref1_textMay_r1) .ret)), 6, [.tmp 2]⟩
@[simp] def c_record_Number_r0 : List Ir := [⟨(some 2), none, .mov (.c (.int .i64 0))⟩]
@[simp] def c_record_Number_r1 : List Ir := [⟨(some 3), none, .mov (.t 0)⟩,
  ⟨(some 4), none, .idxS (.t 3) (.c (.int .i64 0))⟩,
  ⟨(some 5), none, .ii .i64 (.t 4)⟩,
  ⟨(some 6), none, .bin .shl 3 (.t 5) (.c (.int .u64 24))⟩,
  ⟨(some 7), none, .mov (.t 0)⟩,
  ⟨(some 8), none, .idxS (.t 7) (.c (.int .i64 1))⟩,
  ⟨(some 9), none, .ii .i64 (.t 8)⟩,
  ⟨(some 10), none, .bin .shl 3 (.t 9) (.c (.int .u64 16))⟩,
  ⟨(some 11), none, .bin .or 3 (.t 6) (.t 10)⟩,
  ⟨(some 12), none, .mov (.t 0)⟩,
  ⟨(some 13), none, .idxS (.t 12) (.c (.int .i64 2))⟩,
  ⟨(some 14), none, .ii .i64 (.t 13)⟩,
  ⟨(some 15), none, .bin .shl 3 (.t 14) (.c (.int .u64 8))⟩,
  ⟨(some 16), none, .bin .or 3 (.t 11) (.t 15)⟩,
  ⟨(some 17), none, .mov (.t 0)⟩,
  ⟨(some 18), none, .idxS (.t 17) (.c (.int .i64 3))⟩,
  ⟨(some 19), none, .ii .i64 (.t 18)⟩,
  ⟨(some 20), none, .bin .or 3 (.t 16) (.t 19)⟩,
  ⟨(some 2), none, .mov (.t 20)⟩]
@[simp] def c_record_Number : IFn := ⟨(.seq (.reg c_record_Number_r0) (.seq (.regd c_record_Number_r1 []) .ret)), 21, [.tmp 2]⟩
@[simp] def c_record_Put_r0 : List Ir := [⟨(some 1), none, .box 4 (.t 0)⟩,
  ⟨(some 2), none, .mov (.c (.string ⟨#[]⟩))⟩,
  ⟨(some 3), none, .mov (.c (.int .i64 0))⟩]
@[simp] def c_record_Put_r1 : List Ir := [⟨(some 4), none, .ldn 4 (.t 1)⟩,
  ⟨(some 5), none, .call f_record_May [(.t 4)]⟩,
  ⟨(some 6), none, .un .not (.t 5)⟩]
@[simp] def c_record_Put_r2 : List Ir := [⟨(some 2), none, .mov (.c (.string ⟨#[]⟩))⟩,
  ⟨(some 3), none, .mov (.c (.int .i64 300))⟩]
@[simp] def c_record_Put_r3 : List Ir := [⟨(some 7), none, .fadr 0 (.t 1)⟩,
  ⟨(some 8), none, .ld (.t 7)⟩,
  ⟨(some 10), none, .fadr 1 (.t 1)⟩,
  ⟨(some 11), none, .ld (.t 10)⟩,
  ⟨(some 12), none, .ii .u8 (.t 11)⟩,
  ⟨(some 13), none, .fadr 2 (.t 1)⟩,
  ⟨(some 14), none, .ld (.t 13)⟩,
  ⟨(some 15), none, .ii .u8 (.t 14)⟩,
  ⟨(some 16), none, .fadr 3 (.t 1)⟩,
  ⟨(some 17), none, .ld (.t 16)⟩,
  ⟨(some 18), none, .lenS (.t 17)⟩,
  ⟨(some 19), none, .ii .u8 (.t 18)⟩,
  ⟨(some 20), none, .mkrow 1 4 [(.int .u8 0), (.int .u8 0), (.int .u8 0), (.int .u8 0)] [(0, (1, (.t 12))), (1, (1, (.t 15))), (2, (1, (.t 19))), (3, (1, (.c (.int .u8 0))))]⟩,
  ⟨(some 21), none, .b2s (.t 20)⟩,
  ⟨(some 23), none, .fadr 3 (.t 1)⟩,
  ⟨(some 24), none, .ld (.t 23)⟩,
  ⟨(some 9), none, .call f_record_Four [(.t 8)]⟩,
  ⟨(some 22), none, .bin .add 9 (.t 9) (.t 21)⟩,
  ⟨(some 25), none, .bin .add 9 (.t 22) (.t 24)⟩,
  ⟨(some 26), none, .call f_record_Fill [(.t 25)]⟩,
  ⟨(some 2), none, .mov (.t 26)⟩,
  ⟨(some 3), none, .mov (.c (.int .i64 0))⟩]
@[simp] def c_record_Put : IFn := ⟨(.seq (.reg c_record_Put_r0) (.seq (.seq (.reg c_record_Put_r1) (.cond (.t 6) (.seq (.reg c_record_Put_r2) .ret) .skip)) (.seq (.regd c_record_Put_r3 [(3, 16), (6, 16), (9, 16), (13, 16), (15, 16)]) .ret))), 27, [.tmp 2, .tmp 3]⟩
@[simp] def c_log_scanner_commit_r0 : List Ir := [⟨(some 4), none, .mov (.c (.bool false))⟩]
@[simp] def c_log_scanner_commit_r1 : List Ir := [⟨(some 5), none, .mov (.t 0)⟩,
  ⟨(some 6), none, .nilck (.t 5)⟩,
  ⟨(some 7), none, .fadr 3 (.t 6)⟩,
  ⟨(some 8), none, .ld (.t 7)⟩,
  ⟨(some 9), none, .bin .neq 3 (.t 8) (.c (.int .i64 0))⟩]
@[simp] def c_log_scanner_commit_r2 : List Ir := [⟨(some 4), none, .mov (.c (.bool false))⟩]
@[simp] def c_log_scanner_commit_r3 : List Ir := [⟨(some 10), none, .mov (.t 0)⟩,
  ⟨(some 11), none, .mov (.t 0)⟩,
  ⟨(some 12), none, .mov (.t 0)⟩,
  ⟨(some 13), none, .mov (.t 0)⟩,
  ⟨(some 14), none, .nilck (.t 13)⟩,
  ⟨(some 15), none, .fadr 0 (.t 14)⟩,
  ⟨(some 16), none, .ld (.t 15)⟩,
  ⟨(some 17), none, .mov (.t 0)⟩,
  ⟨(some 18), none, .nilck (.t 17)⟩,
  ⟨(some 19), none, .fadr 2 (.t 18)⟩,
  ⟨(some 20), none, .ld (.t 19)⟩,
  ⟨(some 21), none, .mkrow 1 1 [(.slice none 0 0)] [(0, (1, (.t 20)))]⟩,
  ⟨(some 23), none, .mov (.t 1)⟩,
  ⟨(some 24), none, .bin .add 3 (.t 23) (.c (.int .i64 1))⟩,
  ⟨(some 22), none, .app 1 24 (.t 16) (.t 21)⟩,
  ⟨(some 25), none, .nilck (.t 10)⟩,
  ⟨(some 26), none, .fadr 0 (.t 25)⟩,
  ⟨none, none, .st 1 (.t 26) (.t 22)⟩,
  ⟨(some 27), none, .nilck (.t 11)⟩,
  ⟨(some 28), none, .fadr 2 (.t 27)⟩,
  ⟨none, none, .st 1 (.t 28) (.c (.slice none 0 0))⟩,
  ⟨(some 29), none, .nilck (.t 12)⟩,
  ⟨(some 30), none, .fadr 1 (.t 29)⟩,
  ⟨none, none, .st 1 (.t 30) (.t 24)⟩]
@[simp] def c_log_scanner_commit_r4 : List Ir := [⟨(some 4), none, .mov (.c (.bool true))⟩]
@[simp] def c_log_scanner_commit : IFn := ⟨(.seq (.reg c_log_scanner_commit_r0) (.seq (.seq (.reg c_log_scanner_commit_r1) (.cond (.t 9) (.seq (.reg c_log_scanner_commit_r2) .ret) .skip)) (.seq (.regd c_log_scanner_commit_r3 []) (.seq (.reg c_log_scanner_commit_r4) .ret)))), 31, [.tmp 4]⟩
@[simp] def c_ref1_GetRecord_r0 : List Ir := [⟨(some 2), none, .new [(.int .i64 0), (.int .i64 0), (.int .i64 0), (.string ⟨#[]⟩)]⟩,
  ⟨(some 3), none, .mov (.c (.int .i64 0))⟩]
@[simp] def c_ref1_GetRecord_r1 : List Ir := [⟨(some 7), none, .mov (.t 0)⟩,
  ⟨(some 8), none, .lenS (.t 7)⟩,
  ⟨(some 9), none, .bin .neq 3 (.t 8) (.c (.int .i64 32))⟩,
  ⟨(some 10), none, .mov (.t 9)⟩,
  ⟨(some 11), (some (10, false)), .mov (.t 0)⟩,
  ⟨(some 12), (some (10, false)), .idxS (.t 11) (.c (.int .i64 6))⟩,
  ⟨(some 13), (some (10, false)), .ii .i64 (.t 12)⟩,
  ⟨(some 14), (some (10, false)), .bin .gtr 3 (.t 13) (.c (.int .i64 24))⟩,
  ⟨(some 15), none, .pick (.t 10) (.c (.bool true)) (.t 14)⟩]
@[simp] def c_ref1_GetRecord_r2 : List Ir := [⟨(some 16), none, .build [(.int .i64 0), (.int .i64 0), (.int .i64 0), (.string ⟨#[]⟩)] []⟩,
  ⟨none, none, .st 4 (.t 2) (.t 16)⟩,
  ⟨(some 3), none, .mov (.c (.int .i64 300))⟩]
@[simp] def c_ref1_GetRecord_r3 : List Ir := [⟨(some 17), none, .mov (.t 0)⟩,
  ⟨(some 19), none, .mov (.t 0)⟩,
  ⟨(some 20), none, .idxS (.t 19) (.c (.int .i64 4))⟩,
  ⟨(some 21), none, .ii .i64 (.t 20)⟩,
  ⟨(some 22), none, .mov (.t 0)⟩,
  ⟨(some 23), none, .idxS (.t 22) (.c (.int .i64 5))⟩,
  ⟨(some 24), none, .ii .i64 (.t 23)⟩,
  ⟨(some 25), none, .mov (.t 0)⟩,
  ⟨(some 26), none, .mov (.t 0)⟩,
  ⟨(some 27), none, .idxS (.t 26) (.c (.int .i64 6))⟩,
  ⟨(some 28), none, .ii .i64 (.t 27)⟩,
  ⟨(some 29), none, .bin .add 3 (.c (.int .i64 8)) (.t 28)⟩,
  ⟨(some 30), none, .sls (.t 25) (some (.c (.int .i64 8))) (some (.t 29))⟩,
  ⟨(some 4), none, .new [(.int .i64 0), (.int .i64 0), (.int .i64 0), (.string ⟨#[]⟩)]⟩,
  ⟨(some 18), none, .call f_ref1_Of [(.t 17)]⟩,
  ⟨(some 31), none, .build [(.int .i64 0), (.int .i64 0), (.int .i64 0), (.string ⟨#[]⟩)] [(0, (1, (.t 18))), (1, (1, (.t 21))), (2, (1, (.t 24))), (3, (1, (.t 30)))]⟩,
  ⟨none, none, .st 4 (.t 4) (.t 31)⟩]
@[simp] def c_ref1_GetRecord_r4 : List Ir := [⟨(some 33), none, .ldn 4 (.t 4)⟩,
  ⟨(some 34), none, .call f_ref1_PutRecord [(.t 33)]⟩,
  ⟨(some 32), none, .mov (.t 34)⟩,
  ⟨(some 35), none, .ext 0 (.t 32)⟩,
  ⟨(some 36), none, .ext 1 (.t 32)⟩,
  ⟨(some 5), none, .mov (.t 35)⟩,
  ⟨(some 6), none, .mov (.t 36)⟩]
@[simp] def c_ref1_GetRecord_r5 : List Ir := [⟨(some 37), none, .mov (.t 6)⟩,
  ⟨(some 38), none, .bin .neq 3 (.t 37) (.c (.int .i64 0))⟩,
  ⟨(some 39), none, .mov (.t 38)⟩,
  ⟨(some 40), (some (39, false)), .mov (.t 5)⟩,
  ⟨(some 41), (some (39, false)), .mov (.t 0)⟩,
  ⟨(some 42), (some (39, false)), .bin .neq 9 (.t 40) (.t 41)⟩,
  ⟨(some 43), none, .pick (.t 39) (.c (.bool true)) (.t 42)⟩]
@[simp] def c_ref1_GetRecord_r6 : List Ir := [⟨(some 44), none, .build [(.int .i64 0), (.int .i64 0), (.int .i64 0), (.string ⟨#[]⟩)] []⟩,
  ⟨none, none, .st 4 (.t 2) (.t 44)⟩,
  ⟨(some 3), none, .mov (.c (.int .i64 300))⟩]
@[simp] def c_ref1_GetRecord_r7 : List Ir := [⟨(some 45), none, .ldn 4 (.t 4)⟩,
  ⟨none, none, .st 4 (.t 2) (.t 45)⟩,
  ⟨(some 3), none, .mov (.c (.int .i64 0))⟩]
@[simp] def c_ref1_GetRecord : IFn := ⟨(.seq (.reg c_ref1_GetRecord_r0) (.seq (.seq (.reg c_ref1_GetRecord_r1) (.cond (.t 15) (.seq (.reg c_ref1_GetRecord_r2) .ret) .skip)) (.seq (.regd c_ref1_GetRecord_r3 []) (.seq (.reg c_ref1_GetRecord_r4) (.seq (.seq (.reg c_ref1_GetRecord_r5) (.cond (.t 43) (.seq (.reg c_ref1_GetRecord_r6) .ret) .skip)) (.seq (.reg c_ref1_GetRecord_r7) .ret)))))), 46, [.ldn 2 4, .tmp 3]⟩
@[simp] def c_record_May_r0 : List Ir := [⟨(some 1), none, .box 4 (.t 0)⟩,
  ⟨(some 2), none, .mov (.c (.bool false))⟩]
@[simp] def c_record_May_r1 : List Ir := [⟨(some 5), none, .fadr 2 (.t 1)⟩,
  ⟨(some 6), none, .ld (.t 5)⟩,
  ⟨(some 7), none, .bin .eql 3 (.t 6) (.c (.int .i64 4))⟩,
  ⟨(some 8), none, .mov (.t 7)⟩,
  ⟨(some 9), (some (8, true)), .fadr 1 (.t 1)⟩,
  ⟨(some 10), (some (8, true)), .ld (.t 9)⟩,
  ⟨(some 11), (some (8, true)), .bin .eql 3 (.t 10) (.c (.int .i64 0))⟩,
  ⟨(some 12), none, .pick (.t 8) (.t 11) (.c (.bool false))⟩,
  ⟨(some 13), none, .mov (.t 12)⟩,
  ⟨(some 14), (some (13, true)), .fadr 3 (.t 1)⟩,
  ⟨(some 15), (some (13, true)), .ld (.t 14)⟩,
  ⟨(some 16), (some (13, true)), .bin .eql 9 (.t 15) (.c (.string ⟨#[]⟩))⟩,
  ⟨(some 17), none, .pick (.t 13) (.t 16) (.c (.bool false))⟩,
  ⟨(some 3), none, .mov (.t 17)⟩]
@[simp] def c_record_May_r2 : List Ir := [⟨(some 18), none, .fadr 2 (.t 1)⟩,
  ⟨(some 19), none, .ld (.t 18)⟩,
  ⟨(some 20), none, .bin .geq 3 (.t 19) (.c (.int .i64 0))⟩,
  ⟨(some 21), none, .mov (.t 20)⟩,
  ⟨(some 22), (some (21, true)), .fadr 2 (.t 1)⟩,
  ⟨(some 23), (some (21, true)), .ld (.t 22)⟩,
  ⟨(some 24), (some (21, true)), .bin .lss 3 (.t 23) (.c (.int .i64 4))⟩,
  ⟨(some 25), none, .pick (.t 21) (.t 24) (.c (.bool false))⟩,
  ⟨(some 26), none, .mov (.t 25)⟩,
  ⟨(some 27), (some (26, true)), .fadr 1 (.t 1)⟩,
  ⟨(some 28), (some (26, true)), .ld (.t 27)⟩,
  ⟨(some 29), (some (26, true)), .call f_record_Page [(.t 28)]⟩,
  ⟨(some 30), none, .pick (.t 26) (.t 29) (.c (.bool false))⟩,
  ⟨(some 31), none, .mov (.t 30)⟩,
  ⟨(some 32), (some (31, true)), .fadr 3 (.t 1)⟩,
  ⟨(some 33), (some (31, true)), .ld (.t 32)⟩,
  ⟨(some 34), (some (31, true)), .lenS (.t 33)⟩,
  ⟨(some 35), (some (31, true)), .bin .leq 3 (.t 34) (.c (.int .i64 24))⟩,
  ⟨(some 36), none, .pick (.t 31) (.t 35) (.c (.bool false))⟩,
  ⟨(some 4), none, .mov (.t 36)⟩]
@[simp] def c_record_May_r3 : List Ir := [⟨(some 37), none, .fadr 0 (.t 1)⟩,
  ⟨(some 38), none, .ld (.t 37)⟩,
  ⟨(some 39), none, .call f_record_Seq [(.t 38)]⟩,
  ⟨(some 40), none, .mov (.t 39)⟩,
  ⟨(some 41), (some (40, true)), .mov (.t 3)⟩,
  ⟨(some 42), (some (40, true)), .mov (.t 41)⟩,
  ⟨(some 43), (some (42, false)), .mov (.t 4)⟩,
  ⟨(some 44), (some (40, true)), .pick (.t 42) (.c (.bool true)) (.t 43)⟩,
  ⟨(some 45), none, .pick (.t 40) (.t 44) (.c (.bool false))⟩,
  ⟨(some 2), none, .mov (.t 45)⟩]
@[simp] def c_record_May : IFn := ⟨(.seq (.reg c_record_May_r0) (.seq (.reg c_record_May_r1) (.seq (.reg c_record_May_r2) (.seq (.reg c_record_May_r3) .ret)))), 46, [.tmp 2]⟩
@[simp] def c_record_Fill_r0 : List Ir := [⟨(some 2), none, .mov (.c (.string ⟨#[]⟩))⟩]
@[simp] def c_record_Fill_r1 : List Ir := [⟨(some 3), none, .mov (.t 0)⟩,
  ⟨(some 4), none, .mov (.t 0)⟩,
  ⟨(some 5), none, .lenS (.t 4)⟩,
  ⟨(some 6), none, .bin .sub 3 (.c (.int .i64 32)) (.t 5)⟩,
  ⟨(some 7), none, .call f_strings_Repeat [(.c (.string ⟨#[0]⟩)), (.t 6)]⟩,
  ⟨(some 8), none, .bin .add 9 (.t 3) (.t 7)⟩,
  ⟨(some 2), none, .mov (.t 8)⟩]
@[simp] def c_record_Fill : IFn := ⟨(.seq (.reg c_record_Fill_r0) (.seq (.reg c_record_Fill_r1) .ret)), 9, [.tmp 2]⟩
@[simp] def c_record_Four_r0 : List Ir := [⟨(some 2), none, .mov (.c (.string ⟨#[]⟩))⟩]
@[simp] def c_record_Four_r1 : List Ir := [⟨(some 3), none, .mov (.t 0)⟩,
  ⟨(some 4), none, .bin .shr 3 (.t 3) (.c (.int .u64 24))⟩,
  ⟨(some 5), none, .ii .u8 (.t 4)⟩,
  ⟨(some 6), none, .mov (.t 0)⟩,
  ⟨(some 7), none, .bin .shr 3 (.t 6) (.c (.int .u64 16))⟩,
  ⟨(some 8), none, .ii .u8 (.t 7)⟩,
  ⟨(some 9), none, .mov (.t 0)⟩,
  ⟨(some 10), none, .bin .shr 3 (.t 9) (.c (.int .u64 8))⟩,
  ⟨(some 11), none, .ii .u8 (.t 10)⟩,
  ⟨(some 12), none, .mov (.t 0)⟩,
  ⟨(some 13), none, .ii .u8 (.t 12)⟩,
  ⟨(some 14), none, .mkrow 1 4 [(.int .u8 0), (.int .u8 0), (.int .u8 0), (.int .u8 0)] [(0, (1, (.t 5))), (1, (1, (.t 8))), (2, (1, (.t 11))), (3, (1, (.t 13)))]⟩,
  ⟨(some 15), none, .b2s (.t 14)⟩,
  ⟨(some 2), none, .mov (.t 15)⟩]
@[simp] def c_record_Four : IFn := ⟨(.seq (.reg c_record_Four_r0) (.seq (.reg c_record_Four_r1) .ret)), 16, [.tmp 2]⟩
@[simp] def c_ref1_Of_r0 : List Ir := [⟨(some 2), none, .mov (.c (.int .i64 0))⟩]
@[simp] def c_ref1_Of_r1 : List Ir := [⟨(some 3), none, .mov (.t 0)⟩,
  ⟨(some 4), none, .idxS (.t 3) (.c (.int .i64 0))⟩,
  ⟨(some 5), none, .ii .i64 (.t 4)⟩,
  ⟨(some 6), none, .bin .shl 3 (.t 5) (.c (.int .u64 24))⟩,
  ⟨(some 7), none, .mov (.t 0)⟩,
  ⟨(some 8), none, .idxS (.t 7) (.c (.int .i64 1))⟩,
  ⟨(some 9), none, .ii .i64 (.t 8)⟩,
  ⟨(some 10), none, .bin .shl 3 (.t 9) (.c (.int .u64 16))⟩,
  ⟨(some 11), none, .bin .or 3 (.t 6) (.t 10)⟩,
  ⟨(some 12), none, .mov (.t 0)⟩,
  ⟨(some 13), none, .idxS (.t 12) (.c (.int .i64 2))⟩,
  ⟨(some 14), none, .ii .i64 (.t 13)⟩,
  ⟨(some 15), none, .bin .shl 3 (.t 14) (.c (.int .u64 8))⟩,
  ⟨(some 16), none, .bin .or 3 (.t 11) (.t 15)⟩,
  ⟨(some 17), none, .mov (.t 0)⟩,
  ⟨(some 18), none, .idxS (.t 17) (.c (.int .i64 3))⟩,
  ⟨(some 19), none, .ii .i64 (.t 18)⟩,
  ⟨(some 20), none, .bin .or 3 (.t 16) (.t 19)⟩,
  ⟨(some 2), none, .mov (.t 20)⟩]
@[simp] def c_ref1_Of : IFn := ⟨(.seq (.reg c_ref1_Of_r0) (.seq (.regd c_ref1_Of_r1 []) .ret)), 21, [.tmp 2]⟩
theorem fc_law4_Logs : fnAt Try.prog f_law4_Logs = some c_law4_Logs := by kernel_rfl
theorem fc_law4_LogBack : fnAt Try.prog f_law4_LogBack = some c_law4_LogBack := by kernel_rfl
theorem fc_law4_LogForms : fnAt Try.prog f_law4_LogForms = some c_law4_LogForms := by kernel_rfl
theorem fc_law4_LogParts : fnAt Try.prog f_law4_LogParts = some c_law4_LogParts := by kernel_rfl
theorem fc_law4_LogStops : fnAt Try.prog f_law4_LogStops = some c_law4_LogStops := by kernel_rfl
theorem fc_law4_LogEmpty : fnAt Try.prog f_law4_LogEmpty = some c_law4_LogEmpty := by kernel_rfl
theorem fc_law4_LogLater : fnAt Try.prog f_law4_LogLater = some c_law4_LogLater := by kernel_rfl
theorem fc_law0_LendImages : fnAt Try.prog f_law0_LendImages = some c_law0_LendImages := by kernel_rfl
theorem fc_law0_LendTexts : fnAt Try.prog f_law0_LendTexts = some c_law0_LendTexts := by kernel_rfl
theorem fc_log_Make : fnAt Try.prog f_log_Make = some c_log_Make := by kernel_rfl
theorem fc_ref1_Make : fnAt Try.prog f_ref1_Make = some c_ref1_Make := by kernel_rfl
theorem fc_log_Scan : fnAt Try.prog f_log_Scan = some c_log_Scan := by kernel_rfl
theorem fc_ref1_Scan : fnAt Try.prog f_ref1_Scan = some c_ref1_Scan := by kernel_rfl
theorem fc_law0_SameRecords : fnAt Try.prog f_law0_SameRecords = some c_law0_SameRecords := by kernel_rfl
theorem fc_law0_Num : fnAt Try.prog f_law0_Num = some c_law0_Num := by kernel_rfl
theorem fc_law4_sameTxns : fnAt Try.prog f_law4_sameTxns = some c_law4_sameTxns := by kernel_rfl
theorem fc_law0_SpoilRecords : fnAt Try.prog f_law0_SpoilRecords = some c_law0_SpoilRecords := by kernel_rfl
theorem fc_law0_SpoilImages : fnAt Try.prog f_law0_SpoilImages = some c_law0_SpoilImages := by kernel_rfl
theorem fc_law0_KeptImages : fnAt Try.prog f_law0_KeptImages = some c_law0_KeptImages := by kernel_rfl
theorem fc_law0_KeptTexts : fnAt Try.prog f_law0_KeptTexts = some c_law0_KeptTexts := by kernel_rfl
theorem fc_law4_awake : fnAt Try.prog f_law4_awake = some c_law4_awake := by kernel_rfl
theorem fc_law4_texts : fnAt Try.prog f_law4_texts = some c_law4_texts := by kernel_rfl
theorem fc_ref1_PutRecord : fnAt Try.prog f_ref1_PutRecord = some c_ref1_PutRecord := by kernel_rfl
theorem fc_law0_CopyImages : fnAt Try.prog f_law0_CopyImages = some c_law0_CopyImages := by kernel_rfl
theorem fc_law0_CopyTexts : fnAt Try.prog f_law0_CopyTexts = some c_law0_CopyTexts := by kernel_rfl
theorem fc_log_Images : fnAt Try.prog f_log_Images = some c_log_Images := by kernel_rfl
theorem fc_record_Seq : fnAt Try.prog f_record_Seq = some c_record_Seq := by kernel_rfl
theorem fc_log_Count : fnAt Try.prog f_log_Count = some c_log_Count := by kernel_rfl
theorem fc_log_Parts : fnAt Try.prog f_log_Parts = some c_log_Parts := by kernel_rfl
theorem fc_ref1_ImagesMay : fnAt Try.prog f_ref1_ImagesMay = some c_ref1_ImagesMay := by kernel_rfl
theorem fc_ref1_seqMay : fnAt Try.prog f_ref1_seqMay = some c_ref1_seqMay := by kernel_rfl
theorem fc_ref1_part : fnAt Try.prog f_ref1_part = some c_ref1_part := by kernel_rfl
theorem fc_record_Get : fnAt Try.prog f_record_Get = some c_record_Get := by kernel_rfl
theorem fc_log_scanner_take : fnAt Try.prog f_log_scanner_take = some c_log_scanner_take := by kernel_rfl
theorem fc_ref1_one : fnAt Try.prog f_ref1_one = some c_ref1_one := by kernel_rfl
theorem fc_law0_SameImages : fnAt Try.prog f_law0_SameImages = some c_law0_SameImages := by kernel_rfl
theorem fc_law0_SameTexts : fnAt Try.prog f_law0_SameTexts = some c_law0_SameTexts := by kernel_rfl
theorem fc_ref1_RecordMay : fnAt Try.prog f_ref1_RecordMay = some c_ref1_RecordMay := by kernel_rfl
theorem fc_ref1_Num : fnAt Try.prog f_ref1_Num = some c_ref1_Num := by kernel_rfl
theorem fc_ref1_zeros : fnAt Try.prog f_ref1_zeros = some c_ref1_zeros := by kernel_rfl
theorem fc_law0_SpoilTexts : fnAt Try.prog f_law0_SpoilTexts = some c_law0_SpoilTexts := by kernel_rfl
theorem fc_record_Page : fnAt Try.prog f_record_Page = some c_record_Page := by kernel_rfl
theorem fc_ref1_textMay : fnAt Try.prog f_ref1_textMay = some c_ref1_textMay := by kernel_rfl
theorem fc_record_Number : fnAt Try.prog f_record_Number = some c_record_Number := by kernel_rfl
theorem fc_record_Put : fnAt Try.prog f_record_Put = some c_record_Put := by kernel_rfl
theorem fc_log_scanner_commit : fnAt Try.prog f_log_scanner_commit = some c_log_scanner_commit := by kernel_rfl
theorem fc_ref1_GetRecord : fnAt Try.prog f_ref1_GetRecord = some c_ref1_GetRecord := by kernel_rfl
theorem fc_record_May : fnAt Try.prog f_record_May = some c_record_May := by kernel_rfl
theorem fc_record_Fill : fnAt Try.prog f_record_Fill = some c_record_Fill := by kernel_rfl
theorem fc_record_Four : fnAt Try.prog f_record_Four = some c_record_Four := by kernel_rfl
theorem fc_ref1_Of : fnAt Try.prog f_ref1_Of = some c_ref1_Of := by kernel_rfl
end Go.AM
