import Derived.Test.YtiiliffoclejlaaR6Code
import Derived.KernelRfl
namespace Go.AM
open Go.Proofs
set_option maxRecDepth 1000000
@[simp] def c_law7_Opens_r0 : List Ir := [⟨(some 1), none, .box 2 (.t 0)⟩,
  ⟨(some 2), none, .mov (.c (.bool false))⟩]
@[simp] def c_law7_Opens_r1 : List Ir := [⟨(some 8), none, .ldn 2 (.t 1)⟩,
  ⟨(some 9), none, .call f_law0_CopyDisk [(.t 8)]⟩,
  ⟨(some 3), none, .new [(.slice none 0 0), (.slice none 0 0)]⟩,
  ⟨none, none, .st 2 (.t 3) (.t 9)⟩]
@[simp] def c_law7_Opens_r2 : List Ir := [⟨(some 11), none, .ldn 2 (.t 3)⟩,
  ⟨(some 12), none, .call f_open_Open [(.t 11)]⟩,
  ⟨(some 10), none, .mov (.t 12)⟩,
  ⟨(some 13), none, .ext 0 (.t 10)⟩,
  ⟨(some 14), none, .ext 1 (.t 10)⟩,
  ⟨(some 4), none, .new [(.int .i64 0), (.int .i64 0), (.int .i64 0), (.int .i64 0), (.slice none 0 0)]⟩,
  ⟨none, none, .st 5 (.t 4) (.t 13)⟩,
  ⟨(some 5), none, .mov (.t 14)⟩]
@[simp] def c_law7_Opens_r3 : List Ir := [⟨(some 16), none, .ldn 2 (.t 1)⟩,
  ⟨(some 17), none, .call f_ref1_Open [(.t 16)]⟩,
  ⟨(some 15), none, .mov (.t 17)⟩,
  ⟨(some 18), none, .ext 0 (.t 15)⟩,
  ⟨(some 19), none, .ext 1 (.t 15)⟩,
  ⟨(some 6), none, .new [(.int .i64 0), (.int .i64 0), (.int .i64 0), (.int .i64 0), (.slice none 0 0)]⟩,
  ⟨none, none, .st 5 (.t 6) (.t 18)⟩,
  ⟨(some 7), none, .mov (.t 19)⟩]
@[simp] def c_law7_Opens_r4 : List Ir := [⟨(some 20), none, .ldn 5 (.t 4)⟩,
  ⟨(some 21), none, .ldn 5 (.t 6)⟩,
  ⟨(some 22), none, .call f_law0_SamePager [(.t 20), (.t 21)]⟩,
  ⟨(some 23), none, .un .not (.t 22)⟩,
  ⟨(some 24), none, .mov (.t 23)⟩,
  ⟨(some 25), (some (24, false)), .mov (.t 5)⟩,
  ⟨(some 26), (some (24, false)), .call f_law0_Num [(.t 25)]⟩,
  ⟨(some 27), (some (24, false)), .mov (.t 7)⟩,
  ⟨(some 28), (some (24, false)), .bin .neq 3 (.t 26) (.t 27)⟩,
  ⟨(some 29), none, .pick (.t 24) (.c (.bool true)) (.t 28)⟩]
@[simp] def c_law7_Opens_r5 : List Ir := [⟨(some 2), none, .mov (.c (.bool false))⟩]
@[simp] def c_law7_Opens_r6 : List Ir := [⟨(some 30), none, .ldn 5 (.t 4)⟩,
  ⟨(some 31), none, .call f_law0_SpoilPager [(.t 30)]⟩]
@[simp] def c_law7_Opens_r7 : List Ir := [⟨(some 32), none, .ldn 2 (.t 3)⟩,
  ⟨(some 33), none, .ldn 2 (.t 1)⟩,
  ⟨(some 34), none, .call f_law0_SameDisk [(.t 32), (.t 33)]⟩,
  ⟨(some 35), none, .mov (.t 34)⟩,
  ⟨(some 36), (some (35, true)), .call f_open_Blank []⟩,
  ⟨(some 37), (some (35, true)), .call f_ref1_Blank []⟩,
  ⟨(some 38), (some (35, true)), .call f_law0_SamePager [(.t 36), (.t 37)]⟩,
  ⟨(some 39), none, .pick (.t 35) (.t 38) (.c (.bool false))⟩,
  ⟨(some 40), none, .mov (.t 39)⟩,
  ⟨(some 41), (some (40, true)), .call f_law7_awake []⟩,
  ⟨(some 42), none, .pick (.t 40) (.t 41) (.c (.bool false))⟩,
  ⟨(some 2), none, .mov (.t 42)⟩]
@[simp] def c_law7_Opens : IFn := ⟨(.seq (.reg c_law7_Opens_r0) (.seq (.reg c_law7_Opens_r1) (.seq (.reg c_law7_Opens_r2) (.seq (.reg c_law7_Opens_r3) (.seq (.seq (.reg c_law7_Opens_r4) (.cond (.t 29) (.seq (.reg c_law7_Opens_r5) .ret) .skip)) (.seq (.reg c_law7_Opens_r6) (.seq (.reg c_law7_Opens_r7) .ret))))))), 43, [.tmp 2]⟩

theorem fc_law7_Opens : fnAt Try.prog f_law7_Opens = some c_law7_Opens := by kernel_rfl
@[simp] def c_law7_OpenSame_r0 : List Ir := [⟨(some 1), none, .box 2 (.t 0)⟩,
  ⟨(some 2), none, .mov (.c (.bool false))⟩]
@[simp] def c_law7_OpenSame_r1 : List Ir := [⟨(some 7), none, .call f_law7_awake []⟩,
  ⟨(some 8), none, .un .not (.t 7)⟩]
@[simp] def c_law7_OpenSame_r2 : List Ir := [⟨(some 2), none, .mov (.c (.bool false))⟩]
@[simp] def c_law7_OpenSame_r3 : List Ir := [⟨(some 10), none, .ldn 2 (.t 1)⟩,
  ⟨(some 11), none, .call f_open_Open [(.t 10)]⟩,
  ⟨(some 9), none, .mov (.t 11)⟩,
  ⟨(some 12), none, .ext 0 (.t 9)⟩,
  ⟨(some 13), none, .ext 1 (.t 9)⟩,
  ⟨(some 3), none, .new [(.int .i64 0), (.int .i64 0), (.int .i64 0), (.int .i64 0), (.slice none 0 0)]⟩,
  ⟨none, none, .st 5 (.t 3) (.t 12)⟩,
  ⟨(some 4), none, .mov (.t 13)⟩]
@[simp] def c_law7_OpenSame_r4 : List Ir := [⟨(some 14), none, .mov (.t 4)⟩,
  ⟨(some 15), none, .call f_law0_Num [(.t 14)]⟩,
  ⟨(some 16), none, .bin .neq 3 (.t 15) (.c (.int .i64 0))⟩]
@[simp] def c_law7_OpenSame_r5 : List Ir := [⟨(some 17), none, .ldn 5 (.t 3)⟩,
  ⟨(some 18), none, .build [(.int .i64 0), (.int .i64 0), (.int .i64 0), (.int .i64 0), (.slice none 0 0)] []⟩,
  ⟨(some 19), none, .call f_law0_SamePager [(.t 17), (.t 18)]⟩,
  ⟨(some 2), none, .mov (.t 19)⟩]
@[simp] def c_law7_OpenSame_r6 : List Ir := [⟨(some 21), none, .ldn 2 (.t 1)⟩,
  ⟨(some 22), none, .build [(.bool false), (.int .i64 0), (.string ⟨#[]⟩)] [(0, (1, (.c (.bool true))))]⟩,
  ⟨(some 23), none, .mkrow 3 1 [(.bool false), (.int .i64 0), (.string ⟨#[]⟩)] [(0, (3, (.t 22)))]⟩,
  ⟨(some 24), none, .call f_law7_done [(.t 21), (.t 23)]⟩,
  ⟨(some 25), none, .call f_open_Open [(.t 24)]⟩,
  ⟨(some 20), none, .mov (.t 25)⟩,
  ⟨(some 26), none, .ext 0 (.t 20)⟩,
  ⟨(some 27), none, .ext 1 (.t 20)⟩,
  ⟨(some 5), none, .new [(.int .i64 0), (.int .i64 0), (.int .i64 0), (.int .i64 0), (.slice none 0 0)]⟩,
  ⟨none, none, .st 5 (.t 5) (.t 26)⟩,
  ⟨(some 6), none, .mov (.t 27)⟩]
@[simp] def c_law7_OpenSame_r7 : List Ir := [⟨(some 28), none, .mov (.t 6)⟩,
  ⟨(some 29), none, .call f_law0_Num [(.t 28)]⟩,
  ⟨(some 30), none, .bin .eql 3 (.t 29) (.c (.int .i64 0))⟩,
  ⟨(some 31), none, .mov (.t 30)⟩,
  ⟨(some 32), (some (31, true)), .ldn 5 (.t 3)⟩,
  ⟨(some 33), (some (31, true)), .ldn 5 (.t 5)⟩,
  ⟨(some 34), (some (31, true)), .call f_law0_SamePager [(.t 32), (.t 33)]⟩,
  ⟨(some 35), none, .pick (.t 31) (.t 34) (.c (.bool false))⟩,
  ⟨(some 36), none, .mov (.t 35)⟩,
  ⟨(some 37), (some (36, true)), .fadr 2 (.t 3)⟩,
  ⟨(some 38), (some (36, true)), .ld (.t 37)⟩,
  ⟨(some 39), (some (36, true)), .bin .gtr 3 (.t 38) (.c (.int .i64 2147483647))⟩,
  ⟨(some 40), (some (36, true)), .mov (.t 39)⟩,
  ⟨(some 41), (some (40, false)), .ldn 5 (.t 3)⟩,
  ⟨(some 42), (some (40, false)), .call f_ref1_PagerMay [(.t 41)]⟩,
  ⟨(some 43), (some (36, true)), .pick (.t 40) (.c (.bool true)) (.t 42)⟩,
  ⟨(some 44), none, .pick (.t 36) (.t 43) (.c (.bool false))⟩,
  ⟨(some 2), none, .mov (.t 44)⟩]
@[simp] def c_law7_OpenSame : IFn := ⟨(.seq (.reg c_law7_OpenSame_r0) (.seq (.seq (.reg c_law7_OpenSame_r1) (.cond (.t 8) (.seq (.reg c_law7_OpenSame_r2) .ret) .skip)) (.seq (.reg c_law7_OpenSame_r3) (.seq (.seq (.reg c_law7_OpenSame_r4) (.cond (.t 16) (.seq (.reg c_law7_OpenSame_r5) .ret) .skip)) (.seq (.reg c_law7_OpenSame_r6) (.seq (.reg c_law7_OpenSame_r7) .ret)))))), 45, [.tmp 2]⟩

theorem fc_law7_OpenSame : fnAt Try.prog f_law7_OpenSame = some c_law7_OpenSame := by kernel_rfl
end Go.AM
