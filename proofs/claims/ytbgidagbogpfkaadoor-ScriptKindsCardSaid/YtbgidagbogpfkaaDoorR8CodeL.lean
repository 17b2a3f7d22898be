import Derived.Test.YtbgidagbogpfkaaDoorR8Code
import Derived.KernelRfl
namespace Go.AM
open Go.Proofs
set_option maxRecDepth 1000000
@[simp] def c_law24_Scripts_r0 : List Ir := [⟨(some 4), none, .mov (.c (.bool false))⟩]
@[simp] def c_law24_Scripts_r1 : List Ir := [⟨(some 15), none, .mkrow 10 0 [] []⟩,
  ⟨(some 16), none, .mov (.t 0)⟩,
  ⟨(some 17), none, .app 10 128 (.t 15) (.t 16)⟩,
  ⟨(some 5), none, .mov (.t 17)⟩]
@[simp] def c_law24_Scripts_r2 : List Ir := [⟨(some 19), none, .mov (.t 5)⟩,
  ⟨(some 20), none, .call f_script_Show [(.t 19)]⟩,
  ⟨(some 18), none, .mov (.t 20)⟩,
  ⟨(some 21), none, .ext 0 (.t 18)⟩,
  ⟨(some 22), none, .ext 1 (.t 18)⟩,
  ⟨(some 6), none, .mov (.t 21)⟩,
  ⟨(some 7), none, .mov (.t 22)⟩]
@[simp] def c_law24_Scripts_r3 : List Ir := [⟨(some 24), none, .mov (.t 0)⟩,
  ⟨(some 25), none, .call f_ref20_ShowActs [(.t 24)]⟩,
  ⟨(some 23), none, .mov (.t 25)⟩,
  ⟨(some 26), none, .ext 0 (.t 23)⟩,
  ⟨(some 27), none, .ext 1 (.t 23)⟩,
  ⟨(some 8), none, .mov (.t 26)⟩,
  ⟨(some 9), none, .mov (.t 27)⟩]
@[simp] def c_law24_Scripts_r4 : List Ir := [⟨(some 29), none, .mov (.t 1)⟩,
  ⟨(some 30), none, .call f_script_Parse [(.t 29)]⟩,
  ⟨(some 28), none, .mov (.t 30)⟩,
  ⟨(some 31), none, .ext 0 (.t 28)⟩,
  ⟨(some 32), none, .ext 1 (.t 28)⟩,
  ⟨(some 10), none, .mov (.t 31)⟩,
  ⟨(some 11), none, .mov (.t 32)⟩]
@[simp] def c_law24_Scripts_r5 : List Ir := [⟨(some 34), none, .mov (.t 1)⟩,
  ⟨(some 35), none, .call f_ref20_ParseActs [(.t 34)]⟩,
  ⟨(some 33), none, .mov (.t 35)⟩,
  ⟨(some 36), none, .ext 0 (.t 33)⟩,
  ⟨(some 37), none, .ext 1 (.t 33)⟩,
  ⟨(some 12), none, .mov (.t 36)⟩,
  ⟨(some 13), none, .mov (.t 37)⟩]
@[simp] def c_law24_Scripts_r6 : List Ir := [⟨(some 38), none, .mov (.t 6)⟩,
  ⟨(some 39), none, .mov (.t 8)⟩,
  ⟨(some 40), none, .bin .neq 9 (.t 38) (.t 39)⟩,
  ⟨(some 41), none, .mov (.t 40)⟩,
  ⟨(some 42), (some (41, false)), .mov (.t 7)⟩,
  ⟨(some 43), (some (41, false)), .call f_law0_Num [(.t 42)]⟩,
  ⟨(some 44), (some (41, false)), .mov (.t 9)⟩,
  ⟨(some 45), (some (41, false)), .bin .neq 3 (.t 43) (.t 44)⟩,
  ⟨(some 46), none, .pick (.t 41) (.c (.bool true)) (.t 45)⟩,
  ⟨(some 47), none, .mov (.t 46)⟩,
  ⟨(some 48), (some (47, false)), .mov (.t 10)⟩,
  ⟨(some 49), (some (47, false)), .mov (.t 12)⟩,
  ⟨(some 50), (some (47, false)), .call f_law0_SameActs [(.t 48), (.t 49)]⟩,
  ⟨(some 51), (some (47, false)), .un .not (.t 50)⟩,
  ⟨(some 52), none, .pick (.t 47) (.c (.bool true)) (.t 51)⟩,
  ⟨(some 53), none, .mov (.t 52)⟩,
  ⟨(some 54), (some (53, false)), .mov (.t 11)⟩,
  ⟨(some 55), (some (53, false)), .call f_law0_Num [(.t 54)]⟩,
  ⟨(some 56), (some (53, false)), .mov (.t 13)⟩,
  ⟨(some 57), (some (53, false)), .bin .neq 3 (.t 55) (.t 56)⟩,
  ⟨(some 58), none, .pick (.t 53) (.c (.bool true)) (.t 57)⟩,
  ⟨(some 59), none, .mov (.t 58)⟩,
  ⟨(some 60), (some (59, false)), .mov (.t 5)⟩,
  ⟨(some 61), (some (59, false)), .mov (.t 0)⟩,
  ⟨(some 62), (some (59, false)), .call f_law0_SameActs [(.t 60), (.t 61)]⟩,
  ⟨(some 63), (some (59, false)), .un .not (.t 62)⟩,
  ⟨(some 64), none, .pick (.t 59) (.c (.bool true)) (.t 63)⟩]
@[simp] def c_law24_Scripts_r7 : List Ir := [⟨(some 4), none, .mov (.c (.bool false))⟩]
@[simp] def c_law24_Scripts_r8 : List Ir := [⟨(some 14), none, .mov (.c (.int .i64 0))⟩]
@[simp] def c_law24_Scripts_r9 : List Ir := [⟨(some 65), none, .mov (.t 14)⟩,
  ⟨(some 66), none, .mov (.t 0)⟩,
  ⟨(some 67), none, .lenV (.t 66)⟩,
  ⟨(some 68), none, .bin .lss 3 (.t 65) (.t 67)⟩]
@[simp] def c_law24_Scripts_r10 : List Ir := [⟨(some 71), none, .mov (.t 0)⟩,
  ⟨(some 72), none, .mov (.t 14)⟩,
  ⟨(some 73), none, .iadrS 10 (.t 71) (.t 72)⟩,
  ⟨(some 74), none, .ldn 10 (.t 73)⟩,
  ⟨(some 76), none, .mov (.t 0)⟩,
  ⟨(some 77), none, .mov (.t 14)⟩,
  ⟨(some 78), none, .iadrS 10 (.t 76) (.t 77)⟩,
  ⟨(some 79), none, .ldn 10 (.t 78)⟩,
  ⟨(some 75), none, .call f_script_May [(.t 74)]⟩,
  ⟨(some 80), none, .call f_ref20_ActMay [(.t 79)]⟩,
  ⟨(some 81), none, .bin .neq 4 (.t 75) (.t 80)⟩]
@[simp] def c_law24_Scripts_r11 : List Ir := [⟨(some 4), none, .mov (.c (.bool false))⟩]
@[simp] def c_law24_Scripts_r12 : List Ir := [⟨(some 69), none, .mov (.t 14)⟩,
  ⟨(some 70), none, .bin .add 3 (.t 69) (.c (.int .i64 1))⟩,
  ⟨(some 14), none, .mov (.t 70)⟩]
def c_law24_Scripts_l13 : IC := (.seq (.seq (.reg c_law24_Scripts_r9) (.cond (.t 68) .skip (.exit 0))) (.seq (.block 1 (.seq (.regd c_law24_Scripts_r10 [(7, 8)]) (.cond (.t 81) (.seq (.reg c_law24_Scripts_r11) .ret) .skip))) (.reg c_law24_Scripts_r12)))
@[simp] def c_law24_Scripts_r14 : List Ir := [⟨(some 82), none, .call f_law24_awake []⟩,
  ⟨(some 4), none, .mov (.t 82)⟩]
@[simp] def c_law24_Scripts : IFn := ⟨(.seq (.reg c_law24_Scripts_r0) (.seq (.reg c_law24_Scripts_r1) (.seq (.reg c_law24_Scripts_r2) (.seq (.reg c_law24_Scripts_r3) (.seq (.reg c_law24_Scripts_r4) (.seq (.reg c_law24_Scripts_r5) (.seq (.seq (.reg c_law24_Scripts_r6) (.cond (.t 64) (.seq (.reg c_law24_Scripts_r7) .ret) .skip)) (.seq (.seq (.reg c_law24_Scripts_r8) (.block 0 (.loop c_law24_Scripts_l13))) (.seq (.reg c_law24_Scripts_r14) .ret))))))))), 83, [.tmp 4]⟩

theorem fc_law24_Scripts : fnAt Tryd.prog f_law24_Scripts = some c_law24_Scripts := by kernel_rfl
@[simp] def c_law24_ScriptBack_r0 : List Ir := [⟨(some 4), none, .mov (.c (.bool false))⟩]
@[simp] def c_law24_ScriptBack_r1 : List Ir := [⟨(some 13), none, .call f_law24_awake []⟩,
  ⟨(some 14), none, .un .not (.t 13)⟩]
@[simp] def c_law24_ScriptBack_r2 : List Ir := [⟨(some 4), none, .mov (.c (.bool false))⟩]
@[simp] def c_law24_ScriptBack_r3 : List Ir := [⟨(some 16), none, .mov (.t 0)⟩,
  ⟨(some 17), none, .call f_script_Show [(.t 16)]⟩,
  ⟨(some 15), none, .mov (.t 17)⟩,
  ⟨(some 18), none, .ext 0 (.t 15)⟩,
  ⟨(some 19), none, .ext 1 (.t 15)⟩,
  ⟨(some 5), none, .mov (.t 18)⟩,
  ⟨(some 6), none, .mov (.t 19)⟩]
@[simp] def c_law24_ScriptBack_r4 : List Ir := [⟨(some 20), none, .mov (.t 6)⟩,
  ⟨(some 21), none, .call f_law0_Num [(.t 20)]⟩,
  ⟨(some 22), none, .bin .eql 3 (.t 21) (.c (.int .i64 0))⟩]
@[simp] def c_law24_ScriptBack_r5 : List Ir := [⟨(some 24), none, .mov (.t 5)⟩,
  ⟨(some 25), none, .call f_script_Parse [(.t 24)]⟩,
  ⟨(some 23), none, .mov (.t 25)⟩,
  ⟨(some 26), none, .ext 0 (.t 23)⟩,
  ⟨(some 27), none, .ext 1 (.t 23)⟩,
  ⟨(some 7), none, .mov (.t 26)⟩,
  ⟨(some 8), none, .mov (.t 27)⟩]
@[simp] def c_law24_ScriptBack_r6 : List Ir := [⟨(some 28), none, .mov (.t 8)⟩,
  ⟨(some 29), none, .call f_law0_Num [(.t 28)]⟩,
  ⟨(some 30), none, .bin .neq 3 (.t 29) (.c (.int .i64 0))⟩,
  ⟨(some 31), none, .mov (.t 30)⟩,
  ⟨(some 32), (some (31, false)), .mov (.t 0)⟩,
  ⟨(some 33), (some (31, false)), .mov (.t 7)⟩,
  ⟨(some 34), (some (31, false)), .call f_law0_SameActs [(.t 32), (.t 33)]⟩,
  ⟨(some 35), (some (31, false)), .un .not (.t 34)⟩,
  ⟨(some 36), none, .pick (.t 31) (.c (.bool true)) (.t 35)⟩]
@[simp] def c_law24_ScriptBack_r7 : List Ir := [⟨(some 4), none, .mov (.c (.bool false))⟩]
@[simp] def c_law24_ScriptBack_r8 : List Ir := [⟨(some 38), none, .mov (.t 1)⟩,
  ⟨(some 39), none, .call f_script_Parse [(.t 38)]⟩,
  ⟨(some 37), none, .mov (.t 39)⟩,
  ⟨(some 40), none, .ext 0 (.t 37)⟩,
  ⟨(some 41), none, .ext 1 (.t 37)⟩,
  ⟨(some 9), none, .mov (.t 40)⟩,
  ⟨(some 10), none, .mov (.t 41)⟩]
@[simp] def c_law24_ScriptBack_r9 : List Ir := [⟨(some 42), none, .mov (.t 10)⟩,
  ⟨(some 43), none, .call f_law0_Num [(.t 42)]⟩,
  ⟨(some 44), none, .bin .neq 3 (.t 43) (.c (.int .i64 0))⟩]
@[simp] def c_law24_ScriptBack_r10 : List Ir := [⟨(some 45), none, .mov (.t 9)⟩,
  ⟨(some 46), none, .lenV (.t 45)⟩,
  ⟨(some 47), none, .bin .eql 3 (.t 46) (.c (.int .i64 0))⟩,
  ⟨(some 4), none, .mov (.t 47)⟩]
@[simp] def c_law24_ScriptBack_r11 : List Ir := [⟨(some 49), none, .mov (.t 9)⟩,
  ⟨(some 50), none, .call f_script_Show [(.t 49)]⟩,
  ⟨(some 48), none, .mov (.t 50)⟩,
  ⟨(some 51), none, .ext 0 (.t 48)⟩,
  ⟨(some 52), none, .ext 1 (.t 48)⟩,
  ⟨(some 11), none, .mov (.t 51)⟩,
  ⟨(some 12), none, .mov (.t 52)⟩]
@[simp] def c_law24_ScriptBack_r12 : List Ir := [⟨(some 53), none, .mov (.t 12)⟩,
  ⟨(some 54), none, .call f_law0_Num [(.t 53)]⟩,
  ⟨(some 55), none, .bin .eql 3 (.t 54) (.c (.int .i64 0))⟩,
  ⟨(some 56), none, .mov (.t 55)⟩,
  ⟨(some 57), (some (56, true)), .mov (.t 11)⟩,
  ⟨(some 58), (some (56, true)), .mov (.t 1)⟩,
  ⟨(some 59), (some (56, true)), .bin .eql 9 (.t 57) (.t 58)⟩,
  ⟨(some 60), none, .pick (.t 56) (.t 59) (.c (.bool false))⟩,
  ⟨(some 4), none, .mov (.t 60)⟩]
@[simp] def c_law24_ScriptBack : IFn := ⟨(.seq (.reg c_law24_ScriptBack_r0) (.seq (.seq (.reg c_law24_ScriptBack_r1) (.cond (.t 14) (.seq (.reg c_law24_ScriptBack_r2) .ret) .skip)) (.seq (.reg c_law24_ScriptBack_r3) (.seq (.seq (.reg c_law24_ScriptBack_r4) (.cond (.t 22) (.seq (.reg c_law24_ScriptBack_r5) (.seq (.reg c_law24_ScriptBack_r6) (.cond (.t 36) (.seq (.reg c_law24_ScriptBack_r7) .ret) .skip))) .skip)) (.seq (.reg c_law24_ScriptBack_r8) (.seq (.seq (.reg c_law24_ScriptBack_r9) (.cond (.t 44) (.seq (.reg c_law24_ScriptBack_r10) .ret) .skip)) (.seq (.reg c_law24_ScriptBack_r11) (.seq (.reg c_law24_ScriptBack_r12) .ret)))))))), 61, [.tmp 4]⟩

theorem fc_law24_ScriptBack : fnAt Tryd.prog f_law24_ScriptBack = some c_law24_ScriptBack := by kernel_rfl
@[simp] def c_law24_ScriptRows_r0 : List Ir := [⟨(some 4), none, .mov (.c (.bool false))⟩]
@[simp] def c_law24_ScriptRows_r1 : List Ir := [⟨(some 14), none, .call f_law24_awake []⟩,
  ⟨(some 15), none, .un .not (.t 14)⟩]
@[simp] def c_law24_ScriptRows_r2 : List Ir := [⟨(some 4), none, .mov (.c (.bool false))⟩]
@[simp] def c_law24_ScriptRows_r3 : List Ir := [⟨(some 16), none, .mov (.t 0)⟩,
  ⟨(some 17), none, .lenV (.t 16)⟩,
  ⟨(some 18), none, .bin .gtr 3 (.t 17) (.c (.int .i64 200))⟩]
@[simp] def c_law24_ScriptRows_r4 : List Ir := [⟨(some 4), none, .mov (.c (.bool true))⟩]
@[simp] def c_law24_ScriptRows_r5 : List Ir := [⟨(some 19), none, .mov (.t 1)⟩,
  ⟨(some 20), none, .ii .u64 (.t 19)⟩,
  ⟨(some 21), none, .mov (.t 0)⟩,
  ⟨(some 22), none, .lenV (.t 21)⟩,
  ⟨(some 23), none, .bin .add 3 (.t 22) (.c (.int .i64 1))⟩,
  ⟨(some 24), none, .ii .u64 (.t 23)⟩,
  ⟨(some 25), none, .bin .rem 40 (.t 20) (.t 24)⟩,
  ⟨(some 26), none, .ii .i64 (.t 25)⟩,
  ⟨(some 5), none, .mov (.t 26)⟩]
@[simp] def c_law24_ScriptRows_r6 : List Ir := [⟨(some 28), none, .mov (.t 0)⟩,
  ⟨(some 29), none, .mov (.t 5)⟩,
  ⟨(some 30), none, .slv 10 (.t 28) none (some (.t 29)) none⟩,
  ⟨(some 31), none, .call f_script_Show [(.t 30)]⟩,
  ⟨(some 27), none, .mov (.t 31)⟩,
  ⟨(some 32), none, .ext 0 (.t 27)⟩,
  ⟨(some 33), none, .ext 1 (.t 27)⟩,
  ⟨(some 6), none, .mov (.t 32)⟩,
  ⟨(some 7), none, .mov (.t 33)⟩]
@[simp] def c_law24_ScriptRows_r7 : List Ir := [⟨(some 35), none, .mov (.t 0)⟩,
  ⟨(some 36), none, .mov (.t 5)⟩,
  ⟨(some 37), none, .slv 10 (.t 35) (some (.t 36)) none none⟩,
  ⟨(some 38), none, .call f_script_Show [(.t 37)]⟩,
  ⟨(some 34), none, .mov (.t 38)⟩,
  ⟨(some 39), none, .ext 0 (.t 34)⟩,
  ⟨(some 40), none, .ext 1 (.t 34)⟩,
  ⟨(some 8), none, .mov (.t 39)⟩,
  ⟨(some 9), none, .mov (.t 40)⟩]
@[simp] def c_law24_ScriptRows_r8 : List Ir := [⟨(some 42), none, .mov (.t 0)⟩,
  ⟨(some 43), none, .call f_script_Show [(.t 42)]⟩,
  ⟨(some 41), none, .mov (.t 43)⟩,
  ⟨(some 44), none, .ext 0 (.t 41)⟩,
  ⟨(some 45), none, .ext 1 (.t 41)⟩,
  ⟨(some 10), none, .mov (.t 44)⟩,
  ⟨(some 11), none, .mov (.t 45)⟩]
@[simp] def c_law24_ScriptRows_r9 : List Ir := [⟨(some 46), none, .mov (.t 7)⟩,
  ⟨(some 47), none, .call f_law0_Num [(.t 46)]⟩,
  ⟨(some 48), none, .bin .neq 3 (.t 47) (.c (.int .i64 0))⟩,
  ⟨(some 49), none, .mov (.t 48)⟩,
  ⟨(some 50), (some (49, false)), .mov (.t 9)⟩,
  ⟨(some 51), (some (49, false)), .call f_law0_Num [(.t 50)]⟩,
  ⟨(some 52), (some (49, false)), .bin .neq 3 (.t 51) (.c (.int .i64 0))⟩,
  ⟨(some 53), none, .pick (.t 49) (.c (.bool true)) (.t 52)⟩]
@[simp] def c_law24_ScriptRows_r10 : List Ir := [⟨(some 54), none, .mov (.t 11)⟩,
  ⟨(some 55), none, .call f_law0_Num [(.t 54)]⟩,
  ⟨(some 56), none, .bin .eql 3 (.t 55) (.c (.int .i64 2400))⟩,
  ⟨(some 57), none, .mov (.t 56)⟩,
  ⟨(some 58), (some (57, true)), .mov (.t 10)⟩,
  ⟨(some 59), (some (57, true)), .bin .eql 9 (.t 58) (.c (.string ⟨#[]⟩))⟩,
  ⟨(some 60), none, .pick (.t 57) (.t 59) (.c (.bool false))⟩,
  ⟨(some 4), none, .mov (.t 60)⟩]
@[simp] def c_law24_ScriptRows_r11 : List Ir := [⟨(some 62), none, .mov (.t 6)⟩,
  ⟨(some 63), none, .mov (.t 8)⟩,
  ⟨(some 64), none, .bin .add 9 (.t 62) (.t 63)⟩,
  ⟨(some 65), none, .call f_script_Parse [(.t 64)]⟩,
  ⟨(some 61), none, .mov (.t 65)⟩,
  ⟨(some 66), none, .ext 0 (.t 61)⟩,
  ⟨(some 67), none, .ext 1 (.t 61)⟩,
  ⟨(some 12), none, .mov (.t 66)⟩,
  ⟨(some 13), none, .mov (.t 67)⟩]
@[simp] def c_law24_ScriptRows_r12 : List Ir := [⟨(some 68), none, .mov (.t 11)⟩,
  ⟨(some 69), none, .call f_law0_Num [(.t 68)]⟩,
  ⟨(some 70), none, .bin .eql 3 (.t 69) (.c (.int .i64 0))⟩,
  ⟨(some 71), none, .mov (.t 70)⟩,
  ⟨(some 72), (some (71, true)), .mov (.t 10)⟩,
  ⟨(some 73), (some (71, true)), .mov (.t 6)⟩,
  ⟨(some 74), (some (71, true)), .mov (.t 8)⟩,
  ⟨(some 75), (some (71, true)), .bin .add 9 (.t 73) (.t 74)⟩,
  ⟨(some 76), (some (71, true)), .bin .eql 9 (.t 72) (.t 75)⟩,
  ⟨(some 77), none, .pick (.t 71) (.t 76) (.c (.bool false))⟩,
  ⟨(some 78), none, .mov (.t 77)⟩,
  ⟨(some 79), (some (78, true)), .mov (.t 13)⟩,
  ⟨(some 80), (some (78, true)), .call f_law0_Num [(.t 79)]⟩,
  ⟨(some 81), (some (78, true)), .bin .eql 3 (.t 80) (.c (.int .i64 0))⟩,
  ⟨(some 82), none, .pick (.t 78) (.t 81) (.c (.bool false))⟩,
  ⟨(some 83), none, .mov (.t 82)⟩,
  ⟨(some 84), (some (83, true)), .mov (.t 12)⟩,
  ⟨(some 85), (some (83, true)), .mov (.t 0)⟩,
  ⟨(some 86), (some (83, true)), .call f_law0_SameActs [(.t 84), (.t 85)]⟩,
  ⟨(some 87), none, .pick (.t 83) (.t 86) (.c (.bool false))⟩,
  ⟨(some 4), none, .mov (.t 87)⟩]
@[simp] def c_law24_ScriptRows : IFn := ⟨(.seq (.reg c_law24_ScriptRows_r0) (.seq (.seq (.reg c_law24_ScriptRows_r1) (.cond (.t 15) (.seq (.reg c_law24_ScriptRows_r2) .ret) .skip)) (.seq (.seq (.reg c_law24_ScriptRows_r3) (.cond (.t 18) (.seq (.reg c_law24_ScriptRows_r4) .ret) .skip)) (.seq (.reg c_law24_ScriptRows_r5) (.seq (.reg c_law24_ScriptRows_r6) (.seq (.reg c_law24_ScriptRows_r7) (.seq (.reg c_law24_ScriptRows_r8) (.seq (.seq (.reg c_law24_ScriptRows_r9) (.cond (.t 53) (.seq (.reg c_law24_ScriptRows_r10) .ret) .skip)) (.seq (.reg c_law24_ScriptRows_r11) (.seq (.reg c_law24_ScriptRows_r12) .ret)))))))))), 88, [.tmp 4]⟩

theorem fc_law24_ScriptRows : fnAt Tryd.prog f_law24_ScriptRows = some c_law24_ScriptRows := by kernel_rfl
@[simp] def c_law24_ScriptKinds_r0 : List Ir := [⟨(some 4), none, .mov (.c (.bool false))⟩]
@[simp] def c_law24_ScriptKinds_r1 : List Ir := [⟨(some 13), none, .call f_law24_awake []⟩,
  ⟨(some 14), none, .un .not (.t 13)⟩]
@[simp] def c_law24_ScriptKinds_r2 : List Ir := [⟨(some 4), none, .mov (.c (.bool false))⟩]
@[simp] def c_law24_ScriptKinds_r3 : List Ir := [⟨(some 15), none, .mov (.t 0)⟩,
  ⟨(some 16), none, .ii .u64 (.t 15)⟩,
  ⟨(some 17), none, .bin .rem 40 (.t 16) (.c (.int .u64 13))⟩,
  ⟨(some 18), none, .ii .i64 (.t 17)⟩,
  ⟨(some 5), none, .mov (.t 18)⟩]
@[simp] def c_law24_ScriptKinds_r4 : List Ir := [⟨(some 19), none, .mov (.t 1)⟩,
  ⟨(some 20), none, .ii .u64 (.t 19)⟩,
  ⟨(some 21), none, .bin .rem 40 (.t 20) (.c (.int .u64 5))⟩,
  ⟨(some 22), none, .ii .i64 (.t 21)⟩,
  ⟨(some 6), none, .mov (.t 22)⟩]
@[simp] def c_law24_ScriptKinds_r5 : List Ir := [⟨(some 23), none, .mov (.t 5)⟩,
  ⟨(some 24), none, .build [(.int .i64 0), (.string ⟨#[]⟩), (.string ⟨#[]⟩), (.string ⟨#[]⟩), (.string ⟨#[]⟩), (.string ⟨#[]⟩), (.int .i64 0), (.string ⟨#[]⟩), (.int .i64 0), (.int .i64 0)] [(0, (1, (.t 23)))]⟩,
  ⟨(some 7), none, .new [(.int .i64 0), (.string ⟨#[]⟩), (.string ⟨#[]⟩), (.string ⟨#[]⟩), (.string ⟨#[]⟩), (.string ⟨#[]⟩), (.int .i64 0), (.string ⟨#[]⟩), (.int .i64 0), (.int .i64 0)]⟩,
  ⟨none, none, .st 10 (.t 7) (.t 24)⟩]
@[simp] def c_law24_ScriptKinds_r6 : List Ir := [⟨(some 25), none, .mov (.t 6)⟩]
@[simp] def c_law24_ScriptKinds_r7 : List Ir := [⟨(some 28), none, .bin .eql 3 (.t 25) (.c (.int .i64 0))⟩,
  ⟨(some 27), none, .mov (.t 28)⟩]
@[simp] def c_law24_ScriptKinds_r8 : List Ir := [⟨(some 29), none, .fadr 1 (.t 7)⟩,
  ⟨none, none, .st 1 (.t 29) (.c (.string ⟨#[97]⟩))⟩]
@[simp] def c_law24_ScriptKinds_r9 : List Ir := [⟨(some 31), none, .bin .eql 3 (.t 25) (.c (.int .i64 1))⟩,
  ⟨(some 30), none, .mov (.t 31)⟩]
@[simp] def c_law24_ScriptKinds_r10 : List Ir := [⟨(some 32), none, .fadr 2 (.t 7)⟩,
  ⟨none, none, .st 1 (.t 32) (.c (.string ⟨#[97]⟩))⟩]
@[simp] def c_law24_ScriptKinds_r11 : List Ir := [⟨(some 34), none, .bin .eql 3 (.t 25) (.c (.int .i64 2))⟩,
  ⟨(some 33), none, .mov (.t 34)⟩]
@[simp] def c_law24_ScriptKinds_r12 : List Ir := [⟨(some 35), none, .fadr 3 (.t 7)⟩,
  ⟨none, none, .st 1 (.t 35) (.c (.string ⟨#[97]⟩))⟩]
@[simp] def c_law24_ScriptKinds_r13 : List Ir := [⟨(some 37), none, .bin .eql 3 (.t 25) (.c (.int .i64 3))⟩,
  ⟨(some 36), none, .mov (.t 37)⟩]
@[simp] def c_law24_ScriptKinds_r14 : List Ir := [⟨(some 38), none, .fadr 4 (.t 7)⟩,
  ⟨none, none, .st 1 (.t 38) (.c (.string ⟨#[97]⟩))⟩]
@[simp] def c_law24_ScriptKinds_r15 : List Ir := [⟨(some 26), none, .fadr 5 (.t 7)⟩,
  ⟨none, none, .st 1 (.t 26) (.c (.string ⟨#[97]⟩))⟩]
@[simp] def c_law24_ScriptKinds_r16 : List Ir := [⟨(some 39), none, .mkrow 1 13 [(.string ⟨#[]⟩), (.string ⟨#[]⟩), (.string ⟨#[]⟩), (.string ⟨#[]⟩), (.string ⟨#[]⟩), (.string ⟨#[]⟩), (.string ⟨#[]⟩), (.string ⟨#[]⟩), (.string ⟨#[]⟩), (.string ⟨#[]⟩), (.string ⟨#[]⟩), (.string ⟨#[]⟩), (.string ⟨#[]⟩)] [(0, (1, (.c (.string ⟨#[110, 112]⟩)))), (1, (1, (.c (.string ⟨#[110, 112]⟩)))), (2, (1, (.c (.string ⟨#[110, 116]⟩)))), (3, (1, (.c (.string ⟨#[110]⟩)))), (4, (1, (.c (.string ⟨#[110, 120]⟩)))), (5, (1, (.c (.string ⟨#[110, 102, 120]⟩)))), (6, (1, (.c (.string ⟨#[110, 102]⟩)))), (7, (1, (.c (.string ⟨#[110, 102]⟩)))), (8, (1, (.c (.string ⟨#[110]⟩)))), (9, (1, (.c (.string ⟨#[]⟩)))), (10, (1, (.c (.string ⟨#[110]⟩)))), (11, (1, (.c (.string ⟨#[]⟩)))), (12, (1, (.c (.string ⟨#[]⟩))))]⟩,
  ⟨(some 8), none, .mov (.t 39)⟩]
@[simp] def c_law24_ScriptKinds_r17 : List Ir := [⟨(some 40), none, .mov (.t 6)⟩,
  ⟨(some 41), none, .idxS (.c (.string ⟨#[110, 112, 116, 102, 120]⟩)) (.t 40)⟩,
  ⟨(some 9), none, .mov (.t 41)⟩]
@[simp] def c_law24_ScriptKinds_r18 : List Ir := [⟨(some 10), none, .mov (.c (.bool false))⟩]
@[simp] def c_law24_ScriptKinds_r19 : List Ir := [⟨(some 11), none, .mov (.c (.int .i64 0))⟩]
@[simp] def c_law24_ScriptKinds_r20 : List Ir := [⟨(some 42), none, .mov (.t 11)⟩,
  ⟨(some 43), none, .mov (.t 8)⟩,
  ⟨(some 44), none, .mov (.t 5)⟩,
  ⟨(some 45), none, .iadrS 1 (.t 43) (.t 44)⟩,
  ⟨(some 46), none, .ld (.t 45)⟩,
  ⟨(some 47), none, .lenS (.t 46)⟩,
  ⟨(some 48), none, .bin .lss 3 (.t 42) (.t 47)⟩]
@[simp] def c_law24_ScriptKinds_r21 : List Ir := [⟨(some 51), none, .mov (.t 10)⟩,
  ⟨(some 52), none, .mov (.t 51)⟩,
  ⟨(some 53), (some (52, false)), .mov (.t 8)⟩,
  ⟨(some 54), (some (52, false)), .mov (.t 5)⟩,
  ⟨(some 55), (some (52, false)), .iadrS 1 (.t 53) (.t 54)⟩,
  ⟨(some 56), (some (52, false)), .ld (.t 55)⟩,
  ⟨(some 57), (some (52, false)), .mov (.t 11)⟩,
  ⟨(some 58), (some (52, false)), .idxS (.t 56) (.t 57)⟩,
  ⟨(some 59), (some (52, false)), .mov (.t 9)⟩,
  ⟨(some 60), (some (52, false)), .bin .eql 5 (.t 58) (.t 59)⟩,
  ⟨(some 61), none, .pick (.t 52) (.c (.bool true)) (.t 60)⟩,
  ⟨(some 10), none, .mov (.t 61)⟩]
@[simp] def c_law24_ScriptKinds_r22 : List Ir := [⟨(some 49), none, .mov (.t 11)⟩,
  ⟨(some 50), none, .bin .add 3 (.t 49) (.c (.int .i64 1))⟩,
  ⟨(some 11), none, .mov (.t 50)⟩]
def c_law24_ScriptKinds_l23 : IC := (.seq (.seq (.reg c_law24_ScriptKinds_r20) (.cond (.t 48) .skip (.exit 1))) (.seq (.block 2 (.reg c_law24_ScriptKinds_r21)) (.reg c_law24_ScriptKinds_r22)))
@[simp] def c_law24_ScriptKinds_r24 : List Ir := [⟨(some 62), none, .mov (.t 5)⟩,
  ⟨(some 63), none, .build [(.int .i64 0), (.string ⟨#[]⟩), (.string ⟨#[]⟩), (.string ⟨#[]⟩), (.string ⟨#[]⟩), (.string ⟨#[]⟩), (.int .i64 0), (.string ⟨#[]⟩), (.int .i64 0), (.int .i64 0)] [(0, (1, (.t 62))), (6, (1, (.c (.int .i64 1)))), (8, (1, (.c (.int .i64 (-1))))), (7, (1, (.c (.string ⟨#[97, 98]⟩)))), (9, (1, (.c (.int .i64 64))))]⟩,
  ⟨(some 12), none, .new [(.int .i64 0), (.string ⟨#[]⟩), (.string ⟨#[]⟩), (.string ⟨#[]⟩), (.string ⟨#[]⟩), (.string ⟨#[]⟩), (.int .i64 0), (.string ⟨#[]⟩), (.int .i64 0), (.int .i64 0)]⟩,
  ⟨none, none, .st 10 (.t 12) (.t 63)⟩]
@[simp] def c_law24_ScriptKinds_r25 : List Ir := [⟨(some 64), none, .ldn 10 (.t 7)⟩,
  ⟨(some 65), none, .call f_script_May [(.t 64)]⟩,
  ⟨(some 66), none, .mov (.t 10)⟩,
  ⟨(some 67), none, .bin .eql 4 (.t 65) (.t 66)⟩,
  ⟨(some 68), none, .mov (.t 67)⟩,
  ⟨(some 69), (some (68, true)), .mov (.t 5)⟩,
  ⟨(some 70), (some (68, true)), .build [(.int .i64 0), (.string ⟨#[]⟩), (.string ⟨#[]⟩), (.string ⟨#[]⟩), (.string ⟨#[]⟩), (.string ⟨#[]⟩), (.int .i64 0), (.string ⟨#[]⟩), (.int .i64 0), (.int .i64 0)] [(0, (1, (.t 69)))]⟩,
  ⟨(some 71), (some (68, true)), .call f_script_May [(.t 70)]⟩,
  ⟨(some 72), none, .pick (.t 68) (.t 71) (.c (.bool false))⟩,
  ⟨(some 73), none, .mov (.t 72)⟩,
  ⟨(some 74), (some (73, true)), .ldn 10 (.t 12)⟩,
  ⟨(some 75), (some (73, true)), .call f_script_May [(.t 74)]⟩,
  ⟨(some 76), (some (73, true)), .mov (.t 5)⟩,
  ⟨(some 77), (some (73, true)), .bin .neq 3 (.t 76) (.c (.int .i64 12))⟩,
  ⟨(some 78), (some (73, true)), .bin .eql 4 (.t 75) (.t 77)⟩,
  ⟨(some 79), none, .pick (.t 73) (.t 78) (.c (.bool false))⟩,
  ⟨(some 80), none, .mov (.t 79)⟩,
  ⟨(some 81), (some (80, true)), .call f_law0_Num [(.c (.int .i64 0))]⟩,
  ⟨(some 82), (some (80, true)), .bin .eql 3 (.t 81) (.c (.int .i64 0))⟩,
  ⟨(some 83), none, .pick (.t 80) (.t 82) (.c (.bool false))⟩,
  ⟨(some 4), none, .mov (.t 83)⟩]
@[simp] def c_law24_ScriptKinds : IFn := ⟨(.seq (.reg c_law24_ScriptKinds_r0) (.seq (.seq (.reg c_law24_ScriptKinds_r1) (.cond (.t 14) (.seq (.reg c_law24_ScriptKinds_r2) .ret) .skip)) (.seq (.reg c_law24_ScriptKinds_r3) (.seq (.reg c_law24_ScriptKinds_r4) (.seq (.reg c_law24_ScriptKinds_r5) (.seq (.seq (.reg c_law24_ScriptKinds_r6) (.block 0 (.seq (.reg c_law24_ScriptKinds_r7) (.cond (.t 27) (.reg c_law24_ScriptKinds_r8) (.seq (.reg c_law24_ScriptKinds_r9) (.cond (.t 30) (.reg c_law24_ScriptKinds_r10) (.seq (.reg c_law24_ScriptKinds_r11) (.cond (.t 33) (.reg c_law24_ScriptKinds_r12) (.seq (.reg c_law24_ScriptKinds_r13) (.cond (.t 36) (.reg c_law24_ScriptKinds_r14) (.reg c_law24_ScriptKinds_r15))))))))))) (.seq (.reg c_law24_ScriptKinds_r16) (.seq (.reg c_law24_ScriptKinds_r17) (.seq (.reg c_law24_ScriptKinds_r18) (.seq (.seq (.reg c_law24_ScriptKinds_r19) (.block 1 (.loop c_law24_ScriptKinds_l23))) (.seq (.reg c_law24_ScriptKinds_r24) (.seq (.reg c_law24_ScriptKinds_r25) .ret)))))))))))), 84, [.tmp 4]⟩

theorem fc_law24_ScriptKinds : fnAt Tryd.prog f_law24_ScriptKinds = some c_law24_ScriptKinds := by kernel_rfl
end Go.AM
