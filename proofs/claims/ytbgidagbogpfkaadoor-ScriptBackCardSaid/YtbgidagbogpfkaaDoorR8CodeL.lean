import Derived.Test.YtbgidagbogpfkaaDoorR8Code
import Derived.KernelRfl
namespace Go.AM
open Go.Proofs
set_option maxRecDepth 1000000
@[simp] def c_law24_ScriptBack_r0 : List Ir := [⟨(some 4), none, .mov (.c (.bool false))⟩]
@[simp] def c_law24_ScriptBack_r1 : List Ir := [⟨(some 13), none, .call f_law24_awake []⟩,
  ⟨(some 14), none, .un .not (.t 13)⟩]
@[simp] def c_law24_ScriptBack_r2 : List Ir := [⟨(some 4), none, .mov (.c (.bool false))⟩]
@[simp] def c_law24_ScriptBack_r3 : List Ir := [⟨(some 16), none, .mov (.t 0)⟩,
  ⟨(some 17), none, .call f_script_Show [(.t 16)]⟩,
  ⟨(some 15), none, .mov (.t 17)⟩,
  ⟨(some 18), none, .ext 0 (.t 15)⟩,
  ⟨(some 19), none, .ext 1 (.t 15)⟩,
  ⟨(some 5), none, .mov (.t 18)⟩,
  ⟨(some 6), none, .mov (.t 19)⟩]
@[simp] def c_law24_ScriptBack_r4 : List Ir := [⟨(some 20), none, .mov (.t 6)⟩,
  ⟨(some 21), none, .call f_law0_Num [(.t 20)]⟩,
  ⟨(some 22), none, .bin .eql 3 (.t 21) (.c (.int .i64 0))⟩]
@[simp] def c_law24_ScriptBack_r5 : List Ir := [⟨(some 24), none, .mov (.t 5)⟩,
  ⟨(some 25), none, .call f_script_Parse [(.t 24)]⟩,
  ⟨(some 23), none, .mov (.t 25)⟩,
  ⟨(some 26), none, .ext 0 (.t 23)⟩,
  ⟨(some 27), none, .ext 1 (.t 23)⟩,
  ⟨(some 7), none, .mov (.t 26)⟩,
  ⟨(some 8), none, .mov (.t 27)⟩]
@[simp] def c_law24_ScriptBack_r6 : List Ir := [⟨(some 28), none, .mov (.t 8)⟩,
  ⟨(some 29), none, .call f_law0_Num [(.t 28)]⟩,
  ⟨(some 30), none, .bin .neq 3 (.t 29) (.c (.int .i64 0))⟩,
  ⟨(some 31), none, .mov (.t 30)⟩,
  ⟨(some 32), (some (31, false)), .mov (.t 0)⟩,
  ⟨(some 33), (some (31, false)), .mov (.t 7)⟩,
  ⟨(some 34), (some (31, false)), .call f_law0_SameActs [(.t 32), (.t 33)]⟩,
  ⟨(some 35), (some (31, false)), .un .not (.t 34)⟩,
  ⟨(some 36), none, .pick (.t 31) (.c (.bool true)) (.t 35)⟩]
@[simp] def c_law24_ScriptBack_r7 : List Ir := [⟨(some 4), none, .mov (.c (.bool false))⟩]
@[simp] def c_law24_ScriptBack_r8 : List Ir := [⟨(some 38), none, .mov (.t 1)⟩,
  ⟨(some 39), none, .call f_script_Parse [(.t 38)]⟩,
  ⟨(some 37), none, .mov (.t 39)⟩,
  ⟨(some 40), none, .ext 0 (.t 37)⟩,
  ⟨(some 41), none, .ext 1 (.t 37)⟩,
  ⟨(some 9), none, .mov (.t 40)⟩,
  ⟨(some 10), none, .mov (.t 41)⟩]
@[simp] def c_law24_ScriptBack_r9 : List Ir := [⟨(some 42), none, .mov (.t 10)⟩,
  ⟨(some 43), none, .call f_law0_Num [(.t 42)]⟩,
  ⟨(some 44), none, .bin .neq 3 (.t 43) (.c (.int .i64 0))⟩]
@[simp] def c_law24_ScriptBack_r10 : List Ir := [⟨(some 45), none, .mov (.t 9)⟩,
  ⟨(some 46), none, .lenV (.t 45)⟩,
  ⟨(some 47), none, .bin .eql 3 (.t 46) (.c (.int .i64 0))⟩,
  ⟨(some 4), none, .mov (.t 47)⟩]
@[simp] def c_law24_ScriptBack_r11 : List Ir := [⟨(some 49), none, .mov (.t 9)⟩,
  ⟨(some 50), none, .call f_script_Show [(.t 49)]⟩,
  ⟨(some 48), none, .mov (.t 50)⟩,
  ⟨(some 51), none, .ext 0 (.t 48)⟩,
  ⟨(some 52), none, .ext 1 (.t 48)⟩,
  ⟨(some 11), none, .mov (.t 51)⟩,
  ⟨(some 12), none, .mov (.t 52)⟩]
@[simp] def c_law24_ScriptBack_r12 : List Ir := [⟨(some 53), none, .mov (.t 12)⟩,
  ⟨(some 54), none, .call f_law0_Num [(.t 53)]⟩,
  ⟨(some 55), none, .bin .eql 3 (.t 54) (.c (.int .i64 0))⟩,
  ⟨(some 56), none, .mov (.t 55)⟩,
  ⟨(some 57), (some (56, true)), .mov (.t 11)⟩,
  ⟨(some 58), (some (56, true)), .mov (.t 1)⟩,
  ⟨(some 59), (some (56, true)), .bin .eql 9 (.t 57) (.t 58)⟩,
  ⟨(some 60), none, .pick (.t 56) (.t 59) (.c (.bool false))⟩,
  ⟨(some 4), none, .mov (.t 60)⟩]
@[simp] def c_law24_ScriptBack : IFn := ⟨(.seq (.reg c_law24_ScriptBack_r0) (.seq (.seq (.reg c_law24_ScriptBack_r1) (.cond (.t 14) (.seq (.reg c_law24_ScriptBack_r2) .ret) .skip)) (.seq (.reg c_law24_ScriptBack_r3) (.seq (.seq (.reg c_law24_ScriptBack_r4) (.cond (.t 22) (.seq (.reg c_law24_ScriptBack_r5) (.seq (.reg c_law24_ScriptBack_r6) (.cond (.t 36) (.seq (.reg c_law24_ScriptBack_r7) .ret) .skip))) .skip)) (.seq (.reg c_law24_ScriptBack_r8) (.seq (.seq (.reg c_law24_ScriptBack_r9) (.cond (.t 44) (.seq (.reg c_law24_ScriptBack_r10) .ret) .skip)) (.seq (.reg c_law24_ScriptBack_r11) (.seq (.reg c_law24_ScriptBack_r12) .ret)))))))), 61, [.tmp 4]⟩

theorem fc_law24_ScriptBack : fnAt Tryd.prog f_law24_ScriptBack = some c_law24_ScriptBack := by kernel_rfl
end Go.AM
