import Derived.Test.YtbgidagbogpfkaaR7Code
import Derived.KernelRfl
namespace Go.AM
open Go.Proofs
set_option maxRecDepth 1000000
@[simp] def c_law19_Forests_r0 : List Ir := [⟨(some 12), none, .mov (.c (.bool false))⟩]
@[simp] def c_law19_Forests_r1 : List Ir := [⟨(some 39), none, .mov (.t 0)⟩,
  ⟨(some 40), none, .call f_law0_CopyInfos [(.t 39)]⟩,
  ⟨(some 13), none, .mov (.t 40)⟩]
@[simp] def c_law19_Forests_r2 : List Ir := [⟨(some 42), none, .mov (.t 13)⟩,
  ⟨(some 43), none, .mov (.t 1)⟩,
  ⟨(some 44), none, .mov (.t 2)⟩,
  ⟨(some 45), none, .mov (.t 5)⟩,
  ⟨(some 46), none, .call f_forest_Prepare [(.t 42), (.t 43), (.t 44), (.t 45)]⟩,
  ⟨(some 41), none, .mov (.t 46)⟩,
  ⟨(some 47), none, .ext 0 (.t 41)⟩,
  ⟨(some 48), none, .ext 1 (.t 41)⟩,
  ⟨(some 14), none, .mov (.t 47)⟩,
  ⟨(some 15), none, .mov (.t 48)⟩]
@[simp] def c_law19_Forests_r3 : List Ir := [⟨(some 50), none, .mov (.t 0)⟩,
  ⟨(some 51), none, .mov (.t 1)⟩,
  ⟨(some 52), none, .mov (.t 2)⟩,
  ⟨(some 53), none, .mov (.t 5)⟩,
  ⟨(some 54), none, .call f_ref16_Prepare [(.t 50), (.t 51), (.t 52), (.t 53)]⟩,
  ⟨(some 49), none, .mov (.t 54)⟩,
  ⟨(some 55), none, .ext 0 (.t 49)⟩,
  ⟨(some 56), none, .ext 1 (.t 49)⟩,
  ⟨(some 16), none, .mov (.t 55)⟩,
  ⟨(some 17), none, .mov (.t 56)⟩]
@[simp] def c_law19_Forests_r4 : List Ir := [⟨(some 58), none, .mov (.t 13)⟩,
  ⟨(some 59), none, .mov (.t 1)⟩,
  ⟨(some 60), none, .mov (.t 2)⟩,
  ⟨(some 61), none, .call f_forest_Commit [(.t 58), (.t 59), (.t 60)]⟩,
  ⟨(some 57), none, .mov (.t 61)⟩,
  ⟨(some 62), none, .ext 0 (.t 57)⟩,
  ⟨(some 63), none, .ext 1 (.t 57)⟩,
  ⟨(some 18), none, .mov (.t 62)⟩,
  ⟨(some 19), none, .mov (.t 63)⟩]
@[simp] def c_law19_Forests_r5 : List Ir := [⟨(some 65), none, .mov (.t 0)⟩,
  ⟨(some 66), none, .mov (.t 1)⟩,
  ⟨(some 67), none, .mov (.t 2)⟩,
  ⟨(some 68), none, .call f_ref16_Commit [(.t 65), (.t 66), (.t 67)]⟩,
  ⟨(some 64), none, .mov (.t 68)⟩,
  ⟨(some 69), none, .ext 0 (.t 64)⟩,
  ⟨(some 70), none, .ext 1 (.t 64)⟩,
  ⟨(some 20), none, .mov (.t 69)⟩,
  ⟨(some 21), none, .mov (.t 70)⟩]
@[simp] def c_law19_Forests_r6 : List Ir := [⟨(some 72), none, .mov (.t 13)⟩,
  ⟨(some 73), none, .mov (.t 1)⟩,
  ⟨(some 74), none, .call f_forest_Remove [(.t 72), (.t 73)]⟩,
  ⟨(some 71), none, .mov (.t 74)⟩,
  ⟨(some 75), none, .ext 0 (.t 71)⟩,
  ⟨(some 76), none, .ext 1 (.t 71)⟩,
  ⟨(some 22), none, .mov (.t 75)⟩,
  ⟨(some 23), none, .mov (.t 76)⟩]
@[simp] def c_law19_Forests_r7 : List Ir := [⟨(some 78), none, .mov (.t 0)⟩,
  ⟨(some 79), none, .mov (.t 1)⟩,
  ⟨(some 80), none, .call f_ref16_Remove [(.t 78), (.t 79)]⟩,
  ⟨(some 77), none, .mov (.t 80)⟩,
  ⟨(some 81), none, .ext 0 (.t 77)⟩,
  ⟨(some 82), none, .ext 1 (.t 77)⟩,
  ⟨(some 24), none, .mov (.t 81)⟩,
  ⟨(some 25), none, .mov (.t 82)⟩]
@[simp] def c_law19_Forests_r8 : List Ir := [⟨(some 84), none, .mov (.t 13)⟩,
  ⟨(some 85), none, .mov (.t 1)⟩,
  ⟨(some 86), none, .mov (.t 4)⟩,
  ⟨(some 87), none, .call f_forest_Label [(.t 84), (.t 85), (.t 86)]⟩,
  ⟨(some 83), none, .mov (.t 87)⟩,
  ⟨(some 88), none, .ext 0 (.t 83)⟩,
  ⟨(some 89), none, .ext 1 (.t 83)⟩,
  ⟨(some 26), none, .mov (.t 88)⟩,
  ⟨(some 27), none, .mov (.t 89)⟩]
@[simp] def c_law19_Forests_r9 : List Ir := [⟨(some 91), none, .mov (.t 0)⟩,
  ⟨(some 92), none, .mov (.t 1)⟩,
  ⟨(some 93), none, .mov (.t 4)⟩,
  ⟨(some 94), none, .call f_ref16_Label [(.t 91), (.t 92), (.t 93)]⟩,
  ⟨(some 90), none, .mov (.t 94)⟩,
  ⟨(some 95), none, .ext 0 (.t 90)⟩,
  ⟨(some 96), none, .ext 1 (.t 90)⟩,
  ⟨(some 28), none, .mov (.t 95)⟩,
  ⟨(some 29), none, .mov (.t 96)⟩]
@[simp] def c_law19_Forests_r10 : List Ir := [⟨(some 98), none, .mov (.t 13)⟩,
  ⟨(some 99), none, .mov (.t 1)⟩,
  ⟨(some 100), none, .mov (.t 3)⟩,
  ⟨(some 101), none, .mov (.t 4)⟩,
  ⟨(some 102), none, .call f_forest_Write [(.t 98), (.t 99), (.t 100), (.t 101)]⟩,
  ⟨(some 97), none, .mov (.t 102)⟩,
  ⟨(some 103), none, .ext 0 (.t 97)⟩,
  ⟨(some 104), none, .ext 1 (.t 97)⟩,
  ⟨(some 30), none, .mov (.t 103)⟩,
  ⟨(some 31), none, .mov (.t 104)⟩]
@[simp] def c_law19_Forests_r11 : List Ir := [⟨(some 106), none, .mov (.t 0)⟩,
  ⟨(some 107), none, .mov (.t 1)⟩,
  ⟨(some 108), none, .mov (.t 3)⟩,
  ⟨(some 109), none, .mov (.t 4)⟩,
  ⟨(some 110), none, .call f_ref16_Write [(.t 106), (.t 107), (.t 108), (.t 109)]⟩,
  ⟨(some 105), none, .mov (.t 110)⟩,
  ⟨(some 111), none, .ext 0 (.t 105)⟩,
  ⟨(some 112), none, .ext 1 (.t 105)⟩,
  ⟨(some 32), none, .mov (.t 111)⟩,
  ⟨(some 33), none, .mov (.t 112)⟩]
@[simp] def c_law19_Forests_r12 : List Ir := [⟨(some 114), none, .mov (.t 13)⟩,
  ⟨(some 115), none, .mov (.t 1)⟩,
  ⟨(some 116), none, .mov (.t 3)⟩,
  ⟨(some 117), none, .call f_forest_Delete [(.t 114), (.t 115), (.t 116)]⟩,
  ⟨(some 113), none, .mov (.t 117)⟩,
  ⟨(some 118), none, .ext 0 (.t 113)⟩,
  ⟨(some 119), none, .ext 1 (.t 113)⟩,
  ⟨(some 34), none, .mov (.t 118)⟩,
  ⟨(some 35), none, .mov (.t 119)⟩]
@[simp] def c_law19_Forests_r13 : List Ir := [⟨(some 121), none, .mov (.t 0)⟩,
  ⟨(some 122), none, .mov (.t 1)⟩,
  ⟨(some 123), none, .mov (.t 3)⟩,
  ⟨(some 124), none, .call f_ref16_Delete [(.t 121), (.t 122), (.t 123)]⟩,
  ⟨(some 120), none, .mov (.t 124)⟩,
  ⟨(some 125), none, .ext 0 (.t 120)⟩,
  ⟨(some 126), none, .ext 1 (.t 120)⟩,
  ⟨(some 36), none, .mov (.t 125)⟩,
  ⟨(some 37), none, .mov (.t 126)⟩]
@[simp] def c_law19_Forests_r14 : List Ir := [⟨(some 127), none, .mov (.t 14)⟩,
  ⟨(some 128), none, .mov (.t 16)⟩,
  ⟨(some 129), none, .call f_law0_SameInfos [(.t 127), (.t 128)]⟩,
  ⟨(some 130), none, .mov (.t 129)⟩,
  ⟨(some 131), (some (130, true)), .mov (.t 15)⟩,
  ⟨(some 132), (some (130, true)), .call f_law0_Num [(.t 131)]⟩,
  ⟨(some 133), (some (130, true)), .mov (.t 17)⟩,
  ⟨(some 134), (some (130, true)), .bin .eql 3 (.t 132) (.t 133)⟩,
  ⟨(some 135), none, .pick (.t 130) (.t 134) (.c (.bool false))⟩,
  ⟨(some 136), none, .mov (.t 135)⟩,
  ⟨(some 137), (some (136, true)), .mov (.t 18)⟩,
  ⟨(some 138), (some (136, true)), .mov (.t 20)⟩,
  ⟨(some 139), (some (136, true)), .call f_law0_SameInfos [(.t 137), (.t 138)]⟩,
  ⟨(some 140), none, .pick (.t 136) (.t 139) (.c (.bool false))⟩,
  ⟨(some 141), none, .mov (.t 140)⟩,
  ⟨(some 142), (some (141, true)), .mov (.t 19)⟩,
  ⟨(some 143), (some (141, true)), .call f_law0_Num [(.t 142)]⟩,
  ⟨(some 144), (some (141, true)), .mov (.t 21)⟩,
  ⟨(some 145), (some (141, true)), .bin .eql 3 (.t 143) (.t 144)⟩,
  ⟨(some 146), none, .pick (.t 141) (.t 145) (.c (.bool false))⟩,
  ⟨(some 147), none, .mov (.t 146)⟩,
  ⟨(some 148), (some (147, true)), .mov (.t 22)⟩,
  ⟨(some 149), (some (147, true)), .mov (.t 24)⟩,
  ⟨(some 150), (some (147, true)), .call f_law0_SameInfos [(.t 148), (.t 149)]⟩,
  ⟨(some 151), none, .pick (.t 147) (.t 150) (.c (.bool false))⟩,
  ⟨(some 152), none, .mov (.t 151)⟩,
  ⟨(some 153), (some (152, true)), .mov (.t 23)⟩,
  ⟨(some 154), (some (152, true)), .call f_law0_Num [(.t 153)]⟩,
  ⟨(some 155), (some (152, true)), .mov (.t 25)⟩,
  ⟨(some 156), (some (152, true)), .bin .eql 3 (.t 154) (.t 155)⟩,
  ⟨(some 157), none, .pick (.t 152) (.t 156) (.c (.bool false))⟩,
  ⟨(some 158), none, .mov (.t 157)⟩,
  ⟨(some 159), (some (158, true)), .mov (.t 26)⟩,
  ⟨(some 160), (some (158, true)), .mov (.t 28)⟩,
  ⟨(some 161), (some (158, true)), .call f_law0_SameInfos [(.t 159), (.t 160)]⟩,
  ⟨(some 162), none, .pick (.t 158) (.t 161) (.c (.bool false))⟩,
  ⟨(some 163), none, .mov (.t 162)⟩,
  ⟨(some 164), (some (163, true)), .mov (.t 27)⟩,
  ⟨(some 165), (some (163, true)), .call f_law0_Num [(.t 164)]⟩,
  ⟨(some 166), (some (163, true)), .mov (.t 29)⟩,
  ⟨(some 167), (some (163, true)), .bin .eql 3 (.t 165) (.t 166)⟩,
  ⟨(some 168), none, .pick (.t 163) (.t 167) (.c (.bool false))⟩,
  ⟨(some 169), none, .mov (.t 168)⟩,
  ⟨(some 170), (some (169, true)), .mov (.t 30)⟩,
  ⟨(some 171), (some (169, true)), .mov (.t 32)⟩,
  ⟨(some 172), (some (169, true)), .call f_law0_SameInfos [(.t 170), (.t 171)]⟩,
  ⟨(some 173), none, .pick (.t 169) (.t 172) (.c (.bool false))⟩,
  ⟨(some 174), none, .mov (.t 173)⟩,
  ⟨(some 175), (some (174, true)), .mov (.t 31)⟩,
  ⟨(some 176), (some (174, true)), .call f_law0_Num [(.t 175)]⟩,
  ⟨(some 177), (some (174, true)), .mov (.t 33)⟩,
  ⟨(some 178), (some (174, true)), .bin .eql 3 (.t 176) (.t 177)⟩,
  ⟨(some 179), none, .pick (.t 174) (.t 178) (.c (.bool false))⟩,
  ⟨(some 180), none, .mov (.t 179)⟩,
  ⟨(some 181), (some (180, true)), .mov (.t 34)⟩,
  ⟨(some 182), (some (180, true)), .mov (.t 36)⟩,
  ⟨(some 183), (some (180, true)), .call f_law0_SameInfos [(.t 181), (.t 182)]⟩,
  ⟨(some 184), none, .pick (.t 180) (.t 183) (.c (.bool false))⟩,
  ⟨(some 185), none, .mov (.t 184)⟩,
  ⟨(some 186), (some (185, true)), .mov (.t 35)⟩,
  ⟨(some 187), (some (185, true)), .call f_law0_Num [(.t 186)]⟩,
  ⟨(some 188), (some (185, true)), .mov (.t 37)⟩,
  ⟨(some 189), (some (185, true)), .bin .eql 3 (.t 187) (.t 188)⟩,
  ⟨(some 190), none, .pick (.t 185) (.t 189) (.c (.bool false))⟩,
  ⟨(some 191), none, .mov (.t 190)⟩,
  ⟨(some 192), (some (191, true)), .mov (.t 13)⟩,
  ⟨(some 193), (some (191, true)), .call f_forest_May [(.t 192)]⟩,
  ⟨(some 194), (some (191, true)), .mov (.t 0)⟩,
  ⟨(some 195), (some (191, true)), .call f_ref16_ForestMay [(.t 194)]⟩,
  ⟨(some 196), (some (191, true)), .bin .eql 4 (.t 193) (.t 195)⟩,
  ⟨(some 197), none, .pick (.t 191) (.t 196) (.c (.bool false))⟩,
  ⟨(some 38), none, .mov (.t 197)⟩]
@[simp] def c_law19_Forests_r15 : List Ir := [⟨(some 198), none, .mov (.t 14)⟩,
  ⟨(some 199), none, .call f_law0_SpoilInfos [(.t 198)]⟩]
@[simp] def c_law19_Forests_r16 : List Ir := [⟨(some 200), none, .mov (.t 18)⟩,
  ⟨(some 201), none, .call f_law0_SpoilInfos [(.t 200)]⟩]
@[simp] def c_law19_Forests_r17 : List Ir := [⟨(some 202), none, .mov (.t 30)⟩,
  ⟨(some 203), none, .call f_law0_SpoilInfos [(.t 202)]⟩]
@[simp] def c_law19_Forests_r18 : List Ir := [⟨(some 204), none, .mov (.t 34)⟩,
  ⟨(some 205), none, .call f_law0_SpoilInfos [(.t 204)]⟩]
@[simp] def c_law19_Forests_r19 : List Ir := [⟨(some 206), none, .mov (.t 38)⟩,
  ⟨(some 207), none, .mov (.t 206)⟩,
  ⟨(some 208), (some (207, true)), .mov (.t 13)⟩,
  ⟨(some 209), (some (207, true)), .mov (.t 0)⟩,
  ⟨(some 210), (some (207, true)), .call f_law0_SameInfos [(.t 208), (.t 209)]⟩,
  ⟨(some 211), none, .pick (.t 207) (.t 210) (.c (.bool false))⟩,
  ⟨(some 212), none, .mov (.t 211)⟩,
  ⟨(some 213), (some (212, true)), .call f_law19_awake []⟩,
  ⟨(some 214), none, .pick (.t 212) (.t 213) (.c (.bool false))⟩,
  ⟨(some 12), none, .mov (.t 214)⟩]
@[simp] def c_law19_Forests : IFn := ⟨(.seq (.reg c_law19_Forests_r0) (.seq (.reg c_law19_Forests_r1) (.seq (.reg c_law19_Forests_r2) (.seq (.reg c_law19_Forests_r3) (.seq (.reg c_law19_Forests_r4) (.seq (.reg c_law19_Forests_r5) (.seq (.reg c_law19_Forests_r6) (.seq (.reg c_law19_Forests_r7) (.seq (.reg c_law19_Forests_r8) (.seq (.reg c_law19_Forests_r9) (.seq (.reg c_law19_Forests_r10) (.seq (.reg c_law19_Forests_r11) (.seq (.reg c_law19_Forests_r12) (.seq (.reg c_law19_Forests_r13) (.seq (.reg c_law19_Forests_r14) (.seq (.reg c_law19_Forests_r15) (.seq (.reg c_law19_Forests_r16) (.seq (.reg c_law19_Forests_r17) (.seq (.reg c_law19_Forests_r18) (.seq (.reg c_law19_Forests_r19) .ret)))))))))))))))))))), 215, [.tmp 12]⟩

theorem fc_law19_Forests : fnAt Try.prog f_law19_Forests = some c_law19_Forests := by kernel_rfl
@[simp] def c_law19_ForestKept_r0 : List Ir := [⟨(some 8), none, .mov (.c (.bool false))⟩]
@[simp] def c_law19_ForestKept_r1 : List Ir := [⟨(some 18), none, .call f_law19_awake []⟩,
  ⟨(some 19), none, .un .not (.t 18)⟩]
@[simp] def c_law19_ForestKept_r2 : List Ir := [⟨(some 8), none, .mov (.c (.bool false))⟩]
@[simp] def c_law19_ForestKept_r3 : List Ir := [⟨(some 21), none, .mov (.t 0)⟩,
  ⟨(some 22), none, .mov (.t 1)⟩,
  ⟨(some 23), none, .mov (.t 2)⟩,
  ⟨(some 24), none, .mov (.t 3)⟩,
  ⟨(some 25), none, .call f_forest_Write [(.t 21), (.t 22), (.t 23), (.t 24)]⟩,
  ⟨(some 20), none, .mov (.t 25)⟩,
  ⟨(some 26), none, .ext 0 (.t 20)⟩,
  ⟨(some 27), none, .ext 1 (.t 20)⟩,
  ⟨(some 9), none, .mov (.t 26)⟩,
  ⟨(some 10), none, .mov (.t 27)⟩]
@[simp] def c_law19_ForestKept_r4 : List Ir := [⟨(some 29), none, .mov (.t 0)⟩,
  ⟨(some 30), none, .mov (.t 1)⟩,
  ⟨(some 31), none, .mov (.t 2)⟩,
  ⟨(some 32), none, .call f_forest_Delete [(.t 29), (.t 30), (.t 31)]⟩,
  ⟨(some 28), none, .mov (.t 32)⟩,
  ⟨(some 33), none, .ext 0 (.t 28)⟩,
  ⟨(some 34), none, .ext 1 (.t 28)⟩,
  ⟨(some 11), none, .mov (.t 33)⟩,
  ⟨(some 12), none, .mov (.t 34)⟩]
@[simp] def c_law19_ForestKept_r5 : List Ir := [⟨(some 35), none, .mov (.t 9)⟩,
  ⟨(some 36), none, .mov (.t 11)⟩,
  ⟨(some 37), none, .mkrow 1 2 [(.slice none 0 0), (.slice none 0 0)] [(0, (1, (.t 35))), (1, (1, (.t 36)))]⟩,
  ⟨(some 13), none, .mov (.t 37)⟩]
@[simp] def c_law19_ForestKept_r6 : List Ir := [⟨(some 38), none, .mov (.t 10)⟩,
  ⟨(some 39), none, .call f_law0_Num [(.t 38)]⟩,
  ⟨(some 40), none, .bin .eql 3 (.t 39) (.c (.int .i64 0))⟩,
  ⟨(some 41), none, .mov (.t 12)⟩,
  ⟨(some 42), none, .call f_law0_Num [(.t 41)]⟩,
  ⟨(some 43), none, .bin .eql 3 (.t 42) (.c (.int .i64 0))⟩,
  ⟨(some 44), none, .mkrow 1 2 [(.bool false), (.bool false)] [(0, (1, (.t 40))), (1, (1, (.t 43)))]⟩,
  ⟨(some 14), none, .mov (.t 44)⟩]
@[simp] def c_law19_ForestKept_r7 : List Ir := [⟨(some 15), none, .mov (.c (.int .i64 0))⟩]
@[simp] def c_law19_ForestKept_r8 : List Ir := [⟨(some 45), none, .mov (.t 15)⟩,
  ⟨(some 46), none, .bin .lss 3 (.t 45) (.c (.int .i64 2))⟩]
@[simp] def c_law19_ForestKept_r9 : List Ir := [⟨(some 49), none, .mov (.t 14)⟩,
  ⟨(some 50), none, .mov (.t 15)⟩,
  ⟨(some 51), none, .iadrS 1 (.t 49) (.t 50)⟩,
  ⟨(some 52), none, .ld (.t 51)⟩,
  ⟨(some 53), none, .un .not (.t 52)⟩]
@[simp] def c_law19_ForestKept_r10 : List Ir := [⟨(some 54), none, .mov (.t 13)⟩,
  ⟨(some 55), none, .mov (.t 15)⟩,
  ⟨(some 56), none, .iadrS 1 (.t 54) (.t 55)⟩,
  ⟨(some 57), none, .ld (.t 56)⟩,
  ⟨(some 58), none, .lenV (.t 57)⟩,
  ⟨(some 59), none, .bin .neq 3 (.t 58) (.c (.int .i64 0))⟩]
@[simp] def c_law19_ForestKept_r11 : List Ir := [⟨(some 8), none, .mov (.c (.bool false))⟩]
@[simp] def c_law19_ForestKept_r12 : List Ir := [⟨(some 60), none, .mov (.t 13)⟩,
  ⟨(some 61), none, .mov (.t 15)⟩,
  ⟨(some 62), none, .iadrS 1 (.t 60) (.t 61)⟩,
  ⟨(some 63), none, .ld (.t 62)⟩,
  ⟨(some 64), none, .lenV (.t 63)⟩,
  ⟨(some 65), none, .mov (.t 0)⟩,
  ⟨(some 66), none, .lenV (.t 65)⟩,
  ⟨(some 67), none, .bin .neq 3 (.t 64) (.t 66)⟩]
@[simp] def c_law19_ForestKept_r13 : List Ir := [⟨(some 8), none, .mov (.c (.bool false))⟩]
@[simp] def c_law19_ForestKept_r14 : List Ir := [⟨(some 16), none, .mov (.c (.int .i64 0))⟩]
@[simp] def c_law19_ForestKept_r15 : List Ir := [⟨(some 68), none, .mov (.t 16)⟩,
  ⟨(some 69), none, .mov (.t 0)⟩,
  ⟨(some 70), none, .lenV (.t 69)⟩,
  ⟨(some 71), none, .bin .lss 3 (.t 68) (.t 70)⟩]
@[simp] def c_law19_ForestKept_r16 : List Ir := [⟨(some 74), none, .mov (.t 13)⟩,
  ⟨(some 75), none, .mov (.t 15)⟩,
  ⟨(some 76), none, .iadrS 1 (.t 74) (.t 75)⟩,
  ⟨(some 77), none, .ld (.t 76)⟩,
  ⟨(some 78), none, .mov (.t 16)⟩,
  ⟨(some 79), none, .iadrS 5 (.t 77) (.t 78)⟩,
  ⟨(some 80), none, .ldn 5 (.t 79)⟩,
  ⟨(some 17), none, .new [(.string ⟨#[]⟩), (.int .i64 0), (.string ⟨#[]⟩), (.string ⟨#[]⟩), (.slice none 0 0)]⟩,
  ⟨none, none, .st 5 (.t 17) (.t 80)⟩]
@[simp] def c_law19_ForestKept_r17 : List Ir := [⟨(some 81), none, .mov (.t 0)⟩,
  ⟨(some 82), none, .mov (.t 16)⟩,
  ⟨(some 83), none, .iadrS 5 (.t 81) (.t 82)⟩,
  ⟨(some 84), none, .fadr 0 (.t 83)⟩,
  ⟨(some 85), none, .ld (.t 84)⟩,
  ⟨(some 86), none, .mov (.t 1)⟩,
  ⟨(some 87), none, .bin .neq 9 (.t 85) (.t 86)⟩,
  ⟨(some 88), none, .mov (.t 87)⟩,
  ⟨(some 89), (some (88, true)), .ldn 5 (.t 17)⟩,
  ⟨(some 90), (some (88, true)), .mov (.t 0)⟩,
  ⟨(some 91), (some (88, true)), .mov (.t 16)⟩,
  ⟨(some 92), (some (88, true)), .iadrS 5 (.t 90) (.t 91)⟩,
  ⟨(some 93), (some (88, true)), .ldn 5 (.t 92)⟩,
  ⟨(some 94), (some (88, true)), .call f_law0_SameInfo [(.t 89), (.t 93)]⟩,
  ⟨(some 95), (some (88, true)), .un .not (.t 94)⟩,
  ⟨(some 96), none, .pick (.t 88) (.t 95) (.c (.bool false))⟩,
  ⟨(some 97), none, .mov (.t 96)⟩,
  ⟨(some 98), (some (97, false)), .fadr 0 (.t 17)⟩,
  ⟨(some 99), (some (97, false)), .ld (.t 98)⟩,
  ⟨(some 100), (some (97, false)), .mov (.t 0)⟩,
  ⟨(some 101), (some (97, false)), .mov (.t 16)⟩,
  ⟨(some 102), (some (97, false)), .iadrS 5 (.t 100) (.t 101)⟩,
  ⟨(some 103), (some (97, false)), .fadr 0 (.t 102)⟩,
  ⟨(some 104), (some (97, false)), .ld (.t 103)⟩,
  ⟨(some 105), (some (97, false)), .bin .neq 9 (.t 99) (.t 104)⟩,
  ⟨(some 106), none, .pick (.t 97) (.c (.bool true)) (.t 105)⟩,
  ⟨(some 107), none, .mov (.t 106)⟩,
  ⟨(some 108), (some (107, false)), .fadr 1 (.t 17)⟩,
  ⟨(some 109), (some (107, false)), .ld (.t 108)⟩,
  ⟨(some 110), (some (107, false)), .mov (.t 0)⟩,
  ⟨(some 111), (some (107, false)), .mov (.t 16)⟩,
  ⟨(some 112), (some (107, false)), .iadrS 5 (.t 110) (.t 111)⟩,
  ⟨(some 113), (some (107, false)), .fadr 1 (.t 112)⟩,
  ⟨(some 114), (some (107, false)), .ld (.t 113)⟩,
  ⟨(some 115), (some (107, false)), .bin .neq 3 (.t 109) (.t 114)⟩,
  ⟨(some 116), none, .pick (.t 107) (.c (.bool true)) (.t 115)⟩,
  ⟨(some 117), none, .mov (.t 116)⟩,
  ⟨(some 118), (some (117, false)), .fadr 2 (.t 17)⟩,
  ⟨(some 119), (some (117, false)), .ld (.t 118)⟩,
  ⟨(some 120), (some (117, false)), .mov (.t 0)⟩,
  ⟨(some 121), (some (117, false)), .mov (.t 16)⟩,
  ⟨(some 122), (some (117, false)), .iadrS 5 (.t 120) (.t 121)⟩,
  ⟨(some 123), (some (117, false)), .fadr 2 (.t 122)⟩,
  ⟨(some 124), (some (117, false)), .ld (.t 123)⟩,
  ⟨(some 125), (some (117, false)), .bin .neq 9 (.t 119) (.t 124)⟩,
  ⟨(some 126), none, .pick (.t 117) (.c (.bool true)) (.t 125)⟩,
  ⟨(some 127), none, .mov (.t 126)⟩,
  ⟨(some 128), (some (127, false)), .mov (.t 0)⟩,
  ⟨(some 129), (some (127, false)), .mov (.t 16)⟩,
  ⟨(some 130), (some (127, false)), .iadrS 5 (.t 128) (.t 129)⟩,
  ⟨(some 131), (some (127, false)), .fadr 1 (.t 130)⟩,
  ⟨(some 132), (some (127, false)), .ld (.t 131)⟩,
  ⟨(some 133), (some (127, false)), .bin .eql 3 (.t 132) (.c (.int .i64 2))⟩,
  ⟨(some 134), (some (127, false)), .mov (.t 133)⟩,
  ⟨(some 135), (some (134, true)), .ldn 5 (.t 17)⟩,
  ⟨(some 136), (some (134, true)), .mov (.t 0)⟩,
  ⟨(some 137), (some (134, true)), .mov (.t 16)⟩,
  ⟨(some 138), (some (134, true)), .iadrS 5 (.t 136) (.t 137)⟩,
  ⟨(some 139), (some (134, true)), .ldn 5 (.t 138)⟩,
  ⟨(some 140), (some (134, true)), .call f_law0_SameInfo [(.t 135), (.t 139)]⟩,
  ⟨(some 141), (some (134, true)), .un .not (.t 140)⟩,
  ⟨(some 142), (some (127, false)), .pick (.t 134) (.t 141) (.c (.bool false))⟩,
  ⟨(some 143), none, .pick (.t 127) (.c (.bool true)) (.t 142)⟩]
@[simp] def c_law19_ForestKept_r18 : List Ir := [⟨(some 8), none, .mov (.c (.bool false))⟩]
@[simp] def c_law19_ForestKept_r19 : List Ir := [⟨(some 72), none, .mov (.t 16)⟩,
  ⟨(some 73), none, .bin .add 3 (.t 72) (.c (.int .i64 1))⟩,
  ⟨(some 16), none, .mov (.t 73)⟩]
def c_law19_ForestKept_l20 : IC := (.seq (.seq (.reg c_law19_ForestKept_r15) (.cond (.t 71) .skip (.exit 2))) (.seq (.block 3 (.seq (.reg c_law19_ForestKept_r16) (.seq (.regd c_law19_ForestKept_r17 []) (.cond (.t 143) (.seq (.reg c_law19_ForestKept_r18) .ret) .skip)))) (.reg c_law19_ForestKept_r19)))
@[simp] def c_law19_ForestKept_r21 : List Ir := [⟨(some 47), none, .mov (.t 15)⟩,
  ⟨(some 48), none, .bin .add 3 (.t 47) (.c (.int .i64 1))⟩,
  ⟨(some 15), none, .mov (.t 48)⟩]
def c_law19_ForestKept_l22 : IC := (.seq (.seq (.reg c_law19_ForestKept_r8) (.cond (.t 46) .skip (.exit 0))) (.seq (.block 1 (.seq (.seq (.reg c_law19_ForestKept_r9) (.cond (.t 53) (.seq (.seq (.reg c_law19_ForestKept_r10) (.cond (.t 59) (.seq (.reg c_law19_ForestKept_r11) .ret) .skip)) (.exit 1)) .skip)) (.seq (.seq (.reg c_law19_ForestKept_r12) (.cond (.t 67) (.seq (.reg c_law19_ForestKept_r13) .ret) .skip)) (.seq (.reg c_law19_ForestKept_r14) (.block 2 (.loop c_law19_ForestKept_l20)))))) (.reg c_law19_ForestKept_r21)))
@[simp] def c_law19_ForestKept_r23 : List Ir := [⟨(some 8), none, .mov (.c (.bool true))⟩]
@[simp] def c_law19_ForestKept : IFn := ⟨(.seq (.reg c_law19_ForestKept_r0) (.seq (.seq (.reg c_law19_ForestKept_r1) (.cond (.t 19) (.seq (.reg c_law19_ForestKept_r2) .ret) .skip)) (.seq (.reg c_law19_ForestKept_r3) (.seq (.reg c_law19_ForestKept_r4) (.seq (.reg c_law19_ForestKept_r5) (.seq (.reg c_law19_ForestKept_r6) (.seq (.seq (.reg c_law19_ForestKept_r7) (.block 0 (.loop c_law19_ForestKept_l22))) (.seq (.reg c_law19_ForestKept_r23) .ret)))))))), 144, [.tmp 8]⟩

theorem fc_law19_ForestKept : fnAt Try.prog f_law19_ForestKept = some c_law19_ForestKept := by kernel_rfl
@[simp] def c_law19_ForestWrites_r0 : List Ir := [⟨(some 8), none, .mov (.c (.bool false))⟩]
@[simp] def c_law19_ForestWrites_r1 : List Ir := [⟨(some 18), none, .call f_law19_awake []⟩,
  ⟨(some 19), none, .un .not (.t 18)⟩]
@[simp] def c_law19_ForestWrites_r2 : List Ir := [⟨(some 8), none, .mov (.c (.bool false))⟩]
@[simp] def c_law19_ForestWrites_r3 : List Ir := [⟨(some 21), none, .mov (.t 0)⟩,
  ⟨(some 22), none, .mov (.t 1)⟩,
  ⟨(some 23), none, .mov (.t 2)⟩,
  ⟨(some 24), none, .mov (.t 3)⟩,
  ⟨(some 25), none, .call f_forest_Write [(.t 21), (.t 22), (.t 23), (.t 24)]⟩,
  ⟨(some 20), none, .mov (.t 25)⟩,
  ⟨(some 26), none, .ext 0 (.t 20)⟩,
  ⟨(some 27), none, .ext 1 (.t 20)⟩,
  ⟨(some 9), none, .mov (.t 26)⟩,
  ⟨(some 10), none, .mov (.t 27)⟩]
@[simp] def c_law19_ForestWrites_r4 : List Ir := [⟨(some 28), none, .mov (.t 10)⟩,
  ⟨(some 29), none, .call f_law0_Num [(.t 28)]⟩,
  ⟨(some 30), none, .bin .neq 3 (.t 29) (.c (.int .i64 0))⟩]
@[simp] def c_law19_ForestWrites_r5 : List Ir := [⟨(some 31), none, .mov (.t 9)⟩,
  ⟨(some 32), none, .lenV (.t 31)⟩,
  ⟨(some 33), none, .bin .eql 3 (.t 32) (.c (.int .i64 0))⟩,
  ⟨(some 8), none, .mov (.t 33)⟩]
@[simp] def c_law19_ForestWrites_r6 : List Ir := [⟨(some 35), none, .mov (.t 9)⟩,
  ⟨(some 36), none, .mov (.t 1)⟩,
  ⟨(some 37), none, .mov (.t 2)⟩,
  ⟨(some 38), none, .call f_forest_Delete [(.t 35), (.t 36), (.t 37)]⟩,
  ⟨(some 34), none, .mov (.t 38)⟩,
  ⟨(some 39), none, .ext 0 (.t 34)⟩,
  ⟨(some 40), none, .ext 1 (.t 34)⟩,
  ⟨(some 11), none, .mov (.t 39)⟩,
  ⟨(some 12), none, .mov (.t 40)⟩]
@[simp] def c_law19_ForestWrites_r7 : List Ir := [⟨(some 41), none, .mov (.t 12)⟩,
  ⟨(some 42), none, .call f_law0_Num [(.t 41)]⟩,
  ⟨(some 43), none, .bin .neq 3 (.t 42) (.c (.int .i64 0))⟩,
  ⟨(some 44), none, .mov (.t 43)⟩,
  ⟨(some 45), (some (44, false)), .mov (.t 9)⟩,
  ⟨(some 46), (some (44, false)), .lenV (.t 45)⟩,
  ⟨(some 47), (some (44, false)), .mov (.t 0)⟩,
  ⟨(some 48), (some (44, false)), .lenV (.t 47)⟩,
  ⟨(some 49), (some (44, false)), .bin .neq 3 (.t 46) (.t 48)⟩,
  ⟨(some 50), none, .pick (.t 44) (.c (.bool true)) (.t 49)⟩,
  ⟨(some 51), none, .mov (.t 50)⟩,
  ⟨(some 52), (some (51, false)), .mov (.t 11)⟩,
  ⟨(some 53), (some (51, false)), .lenV (.t 52)⟩,
  ⟨(some 54), (some (51, false)), .mov (.t 0)⟩,
  ⟨(some 55), (some (51, false)), .lenV (.t 54)⟩,
  ⟨(some 56), (some (51, false)), .bin .neq 3 (.t 53) (.t 55)⟩,
  ⟨(some 57), none, .pick (.t 51) (.c (.bool true)) (.t 56)⟩]
@[simp] def c_law19_ForestWrites_r8 : List Ir := [⟨(some 8), none, .mov (.c (.bool false))⟩]
@[simp] def c_law19_ForestWrites_r9 : List Ir := [⟨(some 13), none, .mov (.c (.int .i64 0))⟩]
@[simp] def c_law19_ForestWrites_r10 : List Ir := [⟨(some 58), none, .mov (.t 13)⟩,
  ⟨(some 59), none, .mov (.t 0)⟩,
  ⟨(some 60), none, .lenV (.t 59)⟩,
  ⟨(some 61), none, .bin .lss 3 (.t 58) (.t 60)⟩]
@[simp] def c_law19_ForestWrites_r11 : List Ir := [⟨(some 64), none, .mov (.t 0)⟩,
  ⟨(some 65), none, .mov (.t 13)⟩,
  ⟨(some 66), none, .iadrS 5 (.t 64) (.t 65)⟩,
  ⟨(some 67), none, .fadr 0 (.t 66)⟩,
  ⟨(some 68), none, .ld (.t 67)⟩,
  ⟨(some 69), none, .mov (.t 1)⟩,
  ⟨(some 70), none, .bin .neq 9 (.t 68) (.t 69)⟩]
@[simp] def c_law19_ForestWrites_r12 : List Ir := [⟨(some 14), none, .mov (.c (.int .i64 0))⟩]
@[simp] def c_law19_ForestWrites_r13 : List Ir := [⟨(some 15), none, .mov (.c (.int .i64 0))⟩]
@[simp] def c_law19_ForestWrites_r14 : List Ir := [⟨(some 71), none, .mov (.t 15)⟩,
  ⟨(some 72), none, .mov (.t 9)⟩,
  ⟨(some 73), none, .mov (.t 13)⟩,
  ⟨(some 74), none, .iadrS 5 (.t 72) (.t 73)⟩,
  ⟨(some 75), none, .fadr 4 (.t 74)⟩,
  ⟨(some 76), none, .ld (.t 75)⟩,
  ⟨(some 77), none, .lenV (.t 76)⟩,
  ⟨(some 78), none, .bin .lss 3 (.t 71) (.t 77)⟩]
@[simp] def c_law19_ForestWrites_r15 : List Ir := [⟨(some 81), none, .mov (.t 9)⟩,
  ⟨(some 82), none, .mov (.t 13)⟩,
  ⟨(some 83), none, .iadrS 5 (.t 81) (.t 82)⟩,
  ⟨(some 84), none, .fadr 4 (.t 83)⟩,
  ⟨(some 85), none, .ld (.t 84)⟩,
  ⟨(some 86), none, .mov (.t 15)⟩,
  ⟨(some 87), none, .iadrS 3 (.t 85) (.t 86)⟩,
  ⟨(some 88), none, .ldn 3 (.t 87)⟩,
  ⟨(some 16), none, .new [(.string ⟨#[]⟩), (.string ⟨#[]⟩), (.bool false)]⟩,
  ⟨none, none, .st 3 (.t 16) (.t 88)⟩]
@[simp] def c_law19_ForestWrites_r16 : List Ir := [⟨(some 89), none, .fadr 0 (.t 16)⟩,
  ⟨(some 90), none, .ld (.t 89)⟩,
  ⟨(some 91), none, .mov (.t 2)⟩,
  ⟨(some 92), none, .bin .eql 9 (.t 90) (.t 91)⟩]
@[simp] def c_law19_ForestWrites_r17 : List Ir := [⟨(some 93), none, .fadr 1 (.t 16)⟩,
  ⟨(some 94), none, .ld (.t 93)⟩,
  ⟨(some 95), none, .mov (.t 3)⟩,
  ⟨(some 96), none, .bin .neq 9 (.t 94) (.t 95)⟩,
  ⟨(some 97), none, .mov (.t 96)⟩,
  ⟨(some 98), (some (97, false)), .fadr 2 (.t 16)⟩,
  ⟨(some 99), (some (97, false)), .ld (.t 98)⟩,
  ⟨(some 100), (some (97, false)), .un .not (.t 99)⟩,
  ⟨(some 101), none, .pick (.t 97) (.c (.bool true)) (.t 100)⟩]
@[simp] def c_law19_ForestWrites_r18 : List Ir := [⟨(some 8), none, .mov (.c (.bool false))⟩]
@[simp] def c_law19_ForestWrites_r19 : List Ir := [⟨(some 102), none, .mov (.t 14)⟩,
  ⟨(some 103), none, .bin .add 3 (.t 102) (.c (.int .i64 1))⟩,
  ⟨(some 14), none, .mov (.t 103)⟩]
@[simp] def c_law19_ForestWrites_r20 : List Ir := [⟨(some 79), none, .mov (.t 15)⟩,
  ⟨(some 80), none, .bin .add 3 (.t 79) (.c (.int .i64 1))⟩,
  ⟨(some 15), none, .mov (.t 80)⟩]
def c_law19_ForestWrites_l21 : IC := (.seq (.seq (.reg c_law19_ForestWrites_r14) (.cond (.t 78) .skip (.exit 2))) (.seq (.block 3 (.seq (.reg c_law19_ForestWrites_r15) (.seq (.reg c_law19_ForestWrites_r16) (.cond (.t 92) (.seq (.seq (.reg c_law19_ForestWrites_r17) (.cond (.t 101) (.seq (.reg c_law19_ForestWrites_r18) .ret) .skip)) (.reg c_law19_ForestWrites_r19)) .skip)))) (.reg c_law19_ForestWrites_r20)))
@[simp] def c_law19_ForestWrites_r22 : List Ir := [⟨(some 17), none, .mov (.c (.int .i64 0))⟩]
@[simp] def c_law19_ForestWrites_r23 : List Ir := [⟨(some 104), none, .mov (.t 17)⟩,
  ⟨(some 105), none, .mov (.t 11)⟩,
  ⟨(some 106), none, .mov (.t 13)⟩,
  ⟨(some 107), none, .iadrS 5 (.t 105) (.t 106)⟩,
  ⟨(some 108), none, .fadr 4 (.t 107)⟩,
  ⟨(some 109), none, .ld (.t 108)⟩,
  ⟨(some 110), none, .lenV (.t 109)⟩,
  ⟨(some 111), none, .bin .lss 3 (.t 104) (.t 110)⟩]
@[simp] def c_law19_ForestWrites_r24 : List Ir := [⟨(some 114), none, .mov (.t 11)⟩,
  ⟨(some 115), none, .mov (.t 13)⟩,
  ⟨(some 116), none, .iadrS 5 (.t 114) (.t 115)⟩,
  ⟨(some 117), none, .fadr 4 (.t 116)⟩,
  ⟨(some 118), none, .ld (.t 117)⟩,
  ⟨(some 119), none, .mov (.t 17)⟩,
  ⟨(some 120), none, .iadrS 3 (.t 118) (.t 119)⟩,
  ⟨(some 121), none, .fadr 0 (.t 120)⟩,
  ⟨(some 122), none, .ld (.t 121)⟩,
  ⟨(some 123), none, .mov (.t 2)⟩,
  ⟨(some 124), none, .bin .eql 9 (.t 122) (.t 123)⟩]
@[simp] def c_law19_ForestWrites_r25 : List Ir := [⟨(some 8), none, .mov (.c (.bool false))⟩]
@[simp] def c_law19_ForestWrites_r26 : List Ir := [⟨(some 112), none, .mov (.t 17)⟩,
  ⟨(some 113), none, .bin .add 3 (.t 112) (.c (.int .i64 1))⟩,
  ⟨(some 17), none, .mov (.t 113)⟩]
def c_law19_ForestWrites_l27 : IC := (.seq (.seq (.reg c_law19_ForestWrites_r23) (.cond (.t 111) .skip (.exit 4))) (.seq (.block 5 (.seq (.reg c_law19_ForestWrites_r24) (.cond (.t 124) (.seq (.reg c_law19_ForestWrites_r25) .ret) .skip))) (.reg c_law19_ForestWrites_r26)))
@[simp] def c_law19_ForestWrites_r28 : List Ir := [⟨(some 125), none, .mov (.t 14)⟩,
  ⟨(some 126), none, .bin .neq 3 (.t 125) (.c (.int .i64 1))⟩,
  ⟨(some 127), none, .mov (.t 126)⟩,
  ⟨(some 128), (some (127, false)), .mov (.t 11)⟩,
  ⟨(some 129), (some (127, false)), .mov (.t 13)⟩,
  ⟨(some 130), (some (127, false)), .iadrS 5 (.t 128) (.t 129)⟩,
  ⟨(some 131), (some (127, false)), .fadr 4 (.t 130)⟩,
  ⟨(some 132), (some (127, false)), .ld (.t 131)⟩,
  ⟨(some 133), (some (127, false)), .lenV (.t 132)⟩,
  ⟨(some 134), (some (127, false)), .mov (.t 9)⟩,
  ⟨(some 135), (some (127, false)), .mov (.t 13)⟩,
  ⟨(some 136), (some (127, false)), .iadrS 5 (.t 134) (.t 135)⟩,
  ⟨(some 137), (some (127, false)), .fadr 4 (.t 136)⟩,
  ⟨(some 138), (some (127, false)), .ld (.t 137)⟩,
  ⟨(some 139), (some (127, false)), .lenV (.t 138)⟩,
  ⟨(some 140), (some (127, false)), .bin .sub 3 (.t 139) (.c (.int .i64 1))⟩,
  ⟨(some 141), (some (127, false)), .bin .neq 3 (.t 133) (.t 140)⟩,
  ⟨(some 142), none, .pick (.t 127) (.c (.bool true)) (.t 141)⟩]
@[simp] def c_law19_ForestWrites_r29 : List Ir := [⟨(some 8), none, .mov (.c (.bool false))⟩]
@[simp] def c_law19_ForestWrites_r30 : List Ir := [⟨(some 62), none, .mov (.t 13)⟩,
  ⟨(some 63), none, .bin .add 3 (.t 62) (.c (.int .i64 1))⟩,
  ⟨(some 13), none, .mov (.t 63)⟩]
def c_law19_ForestWrites_l31 : IC := (.seq (.seq (.reg c_law19_ForestWrites_r10) (.cond (.t 61) .skip (.exit 0))) (.seq (.block 1 (.seq (.seq (.reg c_law19_ForestWrites_r11) (.cond (.t 70) (.exit 1) .skip)) (.seq (.reg c_law19_ForestWrites_r12) (.seq (.seq (.reg c_law19_ForestWrites_r13) (.block 2 (.loop c_law19_ForestWrites_l21))) (.seq (.seq (.reg c_law19_ForestWrites_r22) (.block 4 (.loop c_law19_ForestWrites_l27))) (.seq (.regd c_law19_ForestWrites_r28 []) (.cond (.t 142) (.seq (.reg c_law19_ForestWrites_r29) .ret) .skip))))))) (.reg c_law19_ForestWrites_r30)))
@[simp] def c_law19_ForestWrites_r32 : List Ir := [⟨(some 143), none, .mov (.t 9)⟩,
  ⟨(some 144), none, .call f_forest_May [(.t 143)]⟩,
  ⟨(some 145), none, .mov (.t 144)⟩,
  ⟨(some 146), (some (145, true)), .mov (.t 11)⟩,
  ⟨(some 147), (some (145, true)), .call f_forest_May [(.t 146)]⟩,
  ⟨(some 148), none, .pick (.t 145) (.t 147) (.c (.bool false))⟩,
  ⟨(some 8), none, .mov (.t 148)⟩]
@[simp] def c_law19_ForestWrites : IFn := ⟨(.seq (.reg c_law19_ForestWrites_r0) (.seq (.seq (.reg c_law19_ForestWrites_r1) (.cond (.t 19) (.seq (.reg c_law19_ForestWrites_r2) .ret) .skip)) (.seq (.reg c_law19_ForestWrites_r3) (.seq (.seq (.reg c_law19_ForestWrites_r4) (.cond (.t 30) (.seq (.reg c_law19_ForestWrites_r5) .ret) .skip)) (.seq (.reg c_law19_ForestWrites_r6) (.seq (.seq (.reg c_law19_ForestWrites_r7) (.cond (.t 57) (.seq (.reg c_law19_ForestWrites_r8) .ret) .skip)) (.seq (.seq (.reg c_law19_ForestWrites_r9) (.block 0 (.loop c_law19_ForestWrites_l31))) (.seq (.reg c_law19_ForestWrites_r32) .ret)))))))), 149, [.tmp 8]⟩

theorem fc_law19_ForestWrites : fnAt Try.prog f_law19_ForestWrites = some c_law19_ForestWrites := by kernel_rfl
@[simp] def c_law19_ForestChild_r0 : List Ir := [⟨(some 8), none, .mov (.c (.bool false))⟩]
@[simp] def c_law19_ForestChild_r1 : List Ir := [⟨(some 18), none, .call f_law19_awake []⟩,
  ⟨(some 19), none, .un .not (.t 18)⟩]
@[simp] def c_law19_ForestChild_r2 : List Ir := [⟨(some 8), none, .mov (.c (.bool false))⟩]
@[simp] def c_law19_ForestChild_r3 : List Ir := [⟨(some 9), none, .mov (.c (.int .i64 0))⟩]
@[simp] def c_law19_ForestChild_r4 : List Ir := [⟨(some 20), none, .mov (.t 3)⟩]
@[simp] def c_law19_ForestChild_r5 : List Ir := [⟨(some 9), none, .mov (.c (.int .i64 1))⟩]
@[simp] def c_law19_ForestChild_r6 : List Ir := [⟨(some 22), none, .mov (.t 0)⟩,
  ⟨(some 23), none, .mov (.t 1)⟩,
  ⟨(some 24), none, .mov (.t 2)⟩,
  ⟨(some 25), none, .mov (.t 9)⟩,
  ⟨(some 26), none, .call f_forest_Prepare [(.t 22), (.t 23), (.t 24), (.t 25)]⟩,
  ⟨(some 21), none, .mov (.t 26)⟩,
  ⟨(some 27), none, .ext 0 (.t 21)⟩,
  ⟨(some 28), none, .ext 1 (.t 21)⟩,
  ⟨(some 10), none, .mov (.t 27)⟩,
  ⟨(some 11), none, .mov (.t 28)⟩]
@[simp] def c_law19_ForestChild_r7 : List Ir := [⟨(some 29), none, .mov (.t 11)⟩,
  ⟨(some 30), none, .call f_law0_Num [(.t 29)]⟩,
  ⟨(some 31), none, .bin .neq 3 (.t 30) (.c (.int .i64 0))⟩]
@[simp] def c_law19_ForestChild_r8 : List Ir := [⟨(some 32), none, .mov (.t 10)⟩,
  ⟨(some 33), none, .lenV (.t 32)⟩,
  ⟨(some 34), none, .bin .eql 3 (.t 33) (.c (.int .i64 0))⟩,
  ⟨(some 8), none, .mov (.t 34)⟩]
@[simp] def c_law19_ForestChild_r9 : List Ir := [⟨(some 12), none, .new [(.string ⟨#[]⟩), (.int .i64 0), (.string ⟨#[]⟩), (.string ⟨#[]⟩), (.slice none 0 0)]⟩,
  ⟨(some 13), none, .new [(.string ⟨#[]⟩), (.int .i64 0), (.string ⟨#[]⟩), (.string ⟨#[]⟩), (.slice none 0 0)]⟩]
@[simp] def c_law19_ForestChild_r10 : List Ir := [⟨(some 14), none, .mov (.c (.int .i64 0))⟩]
@[simp] def c_law19_ForestChild_r11 : List Ir := [⟨(some 35), none, .mov (.t 14)⟩,
  ⟨(some 36), none, .mov (.t 10)⟩,
  ⟨(some 37), none, .lenV (.t 36)⟩,
  ⟨(some 38), none, .bin .lss 3 (.t 35) (.t 37)⟩]
@[simp] def c_law19_ForestChild_r12 : List Ir := [⟨(some 41), none, .mov (.t 10)⟩,
  ⟨(some 42), none, .mov (.t 14)⟩,
  ⟨(some 43), none, .iadrS 5 (.t 41) (.t 42)⟩,
  ⟨(some 44), none, .fadr 0 (.t 43)⟩,
  ⟨(some 45), none, .ld (.t 44)⟩,
  ⟨(some 46), none, .mov (.t 1)⟩,
  ⟨(some 47), none, .bin .eql 9 (.t 45) (.t 46)⟩]
@[simp] def c_law19_ForestChild_r13 : List Ir := [⟨(some 48), none, .mov (.t 10)⟩,
  ⟨(some 49), none, .mov (.t 14)⟩,
  ⟨(some 50), none, .iadrS 5 (.t 48) (.t 49)⟩,
  ⟨(some 51), none, .ldn 5 (.t 50)⟩,
  ⟨none, none, .st 5 (.t 12) (.t 51)⟩]
@[simp] def c_law19_ForestChild_r14 : List Ir := [⟨(some 52), none, .mov (.t 10)⟩,
  ⟨(some 53), none, .mov (.t 14)⟩,
  ⟨(some 54), none, .iadrS 5 (.t 52) (.t 53)⟩,
  ⟨(some 55), none, .fadr 0 (.t 54)⟩,
  ⟨(some 56), none, .ld (.t 55)⟩,
  ⟨(some 57), none, .mov (.t 2)⟩,
  ⟨(some 58), none, .bin .eql 9 (.t 56) (.t 57)⟩]
@[simp] def c_law19_ForestChild_r15 : List Ir := [⟨(some 59), none, .mov (.t 10)⟩,
  ⟨(some 60), none, .mov (.t 14)⟩,
  ⟨(some 61), none, .iadrS 5 (.t 59) (.t 60)⟩,
  ⟨(some 62), none, .ldn 5 (.t 61)⟩,
  ⟨none, none, .st 5 (.t 13) (.t 62)⟩]
@[simp] def c_law19_ForestChild_r16 : List Ir := [⟨(some 39), none, .mov (.t 14)⟩,
  ⟨(some 40), none, .bin .add 3 (.t 39) (.c (.int .i64 1))⟩,
  ⟨(some 14), none, .mov (.t 40)⟩]
def c_law19_ForestChild_l17 : IC := (.seq (.seq (.reg c_law19_ForestChild_r11) (.cond (.t 38) .skip (.exit 0))) (.seq (.block 1 (.seq (.seq (.reg c_law19_ForestChild_r12) (.cond (.t 47) (.reg c_law19_ForestChild_r13) .skip)) (.seq (.reg c_law19_ForestChild_r14) (.cond (.t 58) (.reg c_law19_ForestChild_r15) .skip)))) (.reg c_law19_ForestChild_r16)))
@[simp] def c_law19_ForestChild_r18 : List Ir := [⟨(some 63), none, .mov (.t 10)⟩,
  ⟨(some 64), none, .lenV (.t 63)⟩,
  ⟨(some 65), none, .mov (.t 0)⟩,
  ⟨(some 66), none, .lenV (.t 65)⟩,
  ⟨(some 67), none, .bin .add 3 (.t 66) (.c (.int .i64 1))⟩,
  ⟨(some 68), none, .bin .neq 3 (.t 64) (.t 67)⟩,
  ⟨(some 69), none, .mov (.t 68)⟩,
  ⟨(some 70), (some (69, false)), .fadr 0 (.t 12)⟩,
  ⟨(some 71), (some (69, false)), .ld (.t 70)⟩,
  ⟨(some 72), (some (69, false)), .mov (.t 1)⟩,
  ⟨(some 73), (some (69, false)), .bin .neq 9 (.t 71) (.t 72)⟩,
  ⟨(some 74), none, .pick (.t 69) (.c (.bool true)) (.t 73)⟩,
  ⟨(some 75), none, .mov (.t 74)⟩,
  ⟨(some 76), (some (75, false)), .fadr 1 (.t 12)⟩,
  ⟨(some 77), (some (75, false)), .ld (.t 76)⟩,
  ⟨(some 78), (some (75, false)), .mov (.t 9)⟩,
  ⟨(some 79), (some (75, false)), .bin .neq 3 (.t 77) (.t 78)⟩,
  ⟨(some 80), none, .pick (.t 75) (.c (.bool true)) (.t 79)⟩,
  ⟨(some 81), none, .mov (.t 80)⟩,
  ⟨(some 82), (some (81, false)), .fadr 2 (.t 12)⟩,
  ⟨(some 83), (some (81, false)), .ld (.t 82)⟩,
  ⟨(some 84), (some (81, false)), .mov (.t 2)⟩,
  ⟨(some 85), (some (81, false)), .bin .neq 9 (.t 83) (.t 84)⟩,
  ⟨(some 86), none, .pick (.t 81) (.c (.bool true)) (.t 85)⟩,
  ⟨(some 87), none, .mov (.t 86)⟩,
  ⟨(some 88), (some (87, false)), .fadr 3 (.t 12)⟩,
  ⟨(some 89), (some (87, false)), .ld (.t 88)⟩,
  ⟨(some 90), (some (87, false)), .bin .neq 9 (.t 89) (.c (.string ⟨#[]⟩))⟩,
  ⟨(some 91), none, .pick (.t 87) (.c (.bool true)) (.t 90)⟩,
  ⟨(some 92), none, .mov (.t 91)⟩,
  ⟨(some 93), (some (92, false)), .fadr 4 (.t 12)⟩,
  ⟨(some 94), (some (92, false)), .ld (.t 93)⟩,
  ⟨(some 95), (some (92, false)), .lenV (.t 94)⟩,
  ⟨(some 96), (some (92, false)), .fadr 4 (.t 13)⟩,
  ⟨(some 97), (some (92, false)), .ld (.t 96)⟩,
  ⟨(some 98), (some (92, false)), .lenV (.t 97)⟩,
  ⟨(some 99), (some (92, false)), .bin .neq 3 (.t 95) (.t 98)⟩,
  ⟨(some 100), none, .pick (.t 92) (.c (.bool true)) (.t 99)⟩]
@[simp] def c_law19_ForestChild_r19 : List Ir := [⟨(some 8), none, .mov (.c (.bool false))⟩]
@[simp] def c_law19_ForestChild_r20 : List Ir := [⟨(some 15), none, .mov (.c (.int .i64 0))⟩]
@[simp] def c_law19_ForestChild_r21 : List Ir := [⟨(some 101), none, .mov (.t 15)⟩,
  ⟨(some 102), none, .fadr 4 (.t 12)⟩,
  ⟨(some 103), none, .ld (.t 102)⟩,
  ⟨(some 104), none, .lenV (.t 103)⟩,
  ⟨(some 105), none, .bin .lss 3 (.t 101) (.t 104)⟩]
@[simp] def c_law19_ForestChild_r22 : List Ir := [⟨(some 108), none, .fadr 4 (.t 12)⟩,
  ⟨(some 109), none, .ld (.t 108)⟩,
  ⟨(some 110), none, .mov (.t 15)⟩,
  ⟨(some 111), none, .iadrS 3 (.t 109) (.t 110)⟩,
  ⟨(some 112), none, .ldn 3 (.t 111)⟩,
  ⟨(some 113), none, .fadr 4 (.t 13)⟩,
  ⟨(some 114), none, .ld (.t 113)⟩,
  ⟨(some 115), none, .mov (.t 15)⟩,
  ⟨(some 116), none, .iadrS 3 (.t 114) (.t 115)⟩,
  ⟨(some 117), none, .ldn 3 (.t 116)⟩,
  ⟨(some 16), none, .new [(.string ⟨#[]⟩), (.string ⟨#[]⟩), (.bool false)]⟩,
  ⟨(some 17), none, .new [(.string ⟨#[]⟩), (.string ⟨#[]⟩), (.bool false)]⟩,
  ⟨none, none, .st 3 (.t 16) (.t 112)⟩,
  ⟨none, none, .st 3 (.t 17) (.t 117)⟩]
@[simp] def c_law19_ForestChild_r23 : List Ir := [⟨(some 118), none, .fadr 0 (.t 16)⟩,
  ⟨(some 119), none, .ld (.t 118)⟩,
  ⟨(some 120), none, .fadr 0 (.t 17)⟩,
  ⟨(some 121), none, .ld (.t 120)⟩,
  ⟨(some 122), none, .bin .neq 9 (.t 119) (.t 121)⟩,
  ⟨(some 123), none, .mov (.t 122)⟩,
  ⟨(some 124), (some (123, false)), .fadr 1 (.t 16)⟩,
  ⟨(some 125), (some (123, false)), .ld (.t 124)⟩,
  ⟨(some 126), (some (123, false)), .fadr 1 (.t 17)⟩,
  ⟨(some 127), (some (123, false)), .ld (.t 126)⟩,
  ⟨(some 128), (some (123, false)), .bin .neq 9 (.t 125) (.t 127)⟩,
  ⟨(some 129), none, .pick (.t 123) (.c (.bool true)) (.t 128)⟩,
  ⟨(some 130), none, .mov (.t 129)⟩,
  ⟨(some 131), (some (130, false)), .fadr 2 (.t 16)⟩,
  ⟨(some 132), (some (130, false)), .ld (.t 131)⟩,
  ⟨(some 133), none, .pick (.t 130) (.c (.bool true)) (.t 132)⟩]
@[simp] def c_law19_ForestChild_r24 : List Ir := [⟨(some 8), none, .mov (.c (.bool false))⟩]
@[simp] def c_law19_ForestChild_r25 : List Ir := [⟨(some 106), none, .mov (.t 15)⟩,
  ⟨(some 107), none, .bin .add 3 (.t 106) (.c (.int .i64 1))⟩,
  ⟨(some 15), none, .mov (.t 107)⟩]
def c_law19_ForestChild_l26 : IC := (.seq (.seq (.reg c_law19_ForestChild_r21) (.cond (.t 105) .skip (.exit 2))) (.seq (.block 3 (.seq (.regd c_law19_ForestChild_r22 [(6, 12), (9, 12)]) (.seq (.reg c_law19_ForestChild_r23) (.cond (.t 133) (.seq (.reg c_law19_ForestChild_r24) .ret) .skip)))) (.reg c_law19_ForestChild_r25)))
@[simp] def c_law19_ForestChild_r27 : List Ir := [⟨(some 134), none, .mov (.t 10)⟩,
  ⟨(some 135), none, .call f_forest_May [(.t 134)]⟩,
  ⟨(some 8), none, .mov (.t 135)⟩]
@[simp] def c_law19_ForestChild : IFn := ⟨(.seq (.reg c_law19_ForestChild_r0) (.seq (.seq (.reg c_law19_ForestChild_r1) (.cond (.t 19) (.seq (.reg c_law19_ForestChild_r2) .ret) .skip)) (.seq (.reg c_law19_ForestChild_r3) (.seq (.seq (.reg c_law19_ForestChild_r4) (.cond (.t 20) (.reg c_law19_ForestChild_r5) .skip)) (.seq (.reg c_law19_ForestChild_r6) (.seq (.seq (.reg c_law19_ForestChild_r7) (.cond (.t 31) (.seq (.reg c_law19_ForestChild_r8) .ret) .skip)) (.seq (.reg c_law19_ForestChild_r9) (.seq (.seq (.reg c_law19_ForestChild_r10) (.block 0 (.loop c_law19_ForestChild_l17))) (.seq (.seq (.reg c_law19_ForestChild_r18) (.cond (.t 100) (.seq (.reg c_law19_ForestChild_r19) .ret) .skip)) (.seq (.seq (.reg c_law19_ForestChild_r20) (.block 2 (.loop c_law19_ForestChild_l26))) (.seq (.reg c_law19_ForestChild_r27) .ret))))))))))), 136, [.tmp 8]⟩

theorem fc_law19_ForestChild : fnAt Try.prog f_law19_ForestChild = some c_law19_ForestChild := by kernel_rfl
@[simp] def c_law19_ForestFaults_r0 : List Ir := [⟨(some 2), none, .mov (.c (.bool false))⟩]
@[simp] def c_law19_ForestFaults_r1 : List Ir := [⟨(some 6), none, .call f_law19_awake []⟩,
  ⟨(some 7), none, .un .not (.t 6)⟩]
@[simp] def c_law19_ForestFaults_r2 : List Ir := [⟨(some 2), none, .mov (.c (.bool false))⟩]
@[simp] def c_law19_ForestFaults_r3 : List Ir := [⟨(some 8), none, .call f_law19_given []⟩,
  ⟨(some 3), none, .mov (.t 8)⟩]
@[simp] def c_law19_ForestFaults_r4 : List Ir := [⟨(some 4), none, .mov (.c (.int .i64 0))⟩]
@[simp] def c_law19_ForestFaults_r5 : List Ir := [⟨(some 5), none, .mov (.c (.int .i64 0))⟩]
@[simp] def c_law19_ForestFaults_r6 : List Ir := [⟨(some 9), none, .mov (.t 0)⟩,
  ⟨(some 10), none, .ii .u64 (.t 9)⟩,
  ⟨(some 11), none, .bin .rem 49 (.t 10) (.c (.int .u64 11))⟩]
@[simp] def c_law19_ForestFaults_r7 : List Ir := [⟨(some 18), none, .bin .eql 49 (.t 11) (.c (.int .u64 0))⟩,
  ⟨(some 17), none, .mov (.t 18)⟩]
@[simp] def c_law19_ForestFaults_r8 : List Ir := [⟨(some 20), none, .mov (.t 3)⟩,
  ⟨(some 21), none, .call f_forest_Remove [(.t 20), (.c (.string ⟨#[110, 111, 110, 101]⟩))]⟩,
  ⟨(some 19), none, .mov (.t 21)⟩,
  ⟨(some 22), none, .ext 0 (.t 19)⟩,
  ⟨(some 23), none, .ext 1 (.t 19)⟩,
  ⟨(some 4), none, .mov (.t 23)⟩]
@[simp] def c_law19_ForestFaults_r9 : List Ir := [⟨(some 5), none, .mov (.c (.int .i64 1903))⟩]
@[simp] def c_law19_ForestFaults_r10 : List Ir := [⟨(some 25), none, .bin .eql 49 (.t 11) (.c (.int .u64 1))⟩,
  ⟨(some 24), none, .mov (.t 25)⟩]
@[simp] def c_law19_ForestFaults_r11 : List Ir := [⟨(some 27), none, .mov (.t 3)⟩,
  ⟨(some 28), none, .call f_forest_Remove [(.t 27), (.c (.string ⟨#[98, 97, 115, 101]⟩))]⟩,
  ⟨(some 26), none, .mov (.t 28)⟩,
  ⟨(some 29), none, .ext 0 (.t 26)⟩,
  ⟨(some 30), none, .ext 1 (.t 26)⟩,
  ⟨(some 4), none, .mov (.t 30)⟩]
@[simp] def c_law19_ForestFaults_r12 : List Ir := [⟨(some 5), none, .mov (.c (.int .i64 1906))⟩]
@[simp] def c_law19_ForestFaults_r13 : List Ir := [⟨(some 32), none, .bin .eql 49 (.t 11) (.c (.int .u64 2))⟩,
  ⟨(some 31), none, .mov (.t 32)⟩]
@[simp] def c_law19_ForestFaults_r14 : List Ir := [⟨(some 34), none, .mov (.t 3)⟩,
  ⟨(some 35), none, .call f_forest_Label [(.t 34), (.c (.string ⟨#[110, 111, 110, 101]⟩)), (.c (.string ⟨#[102, 111, 117, 114]⟩))]⟩,
  ⟨(some 33), none, .mov (.t 35)⟩,
  ⟨(some 36), none, .ext 0 (.t 33)⟩,
  ⟨(some 37), none, .ext 1 (.t 33)⟩,
  ⟨(some 4), none, .mov (.t 37)⟩]
@[simp] def c_law19_ForestFaults_r15 : List Ir := [⟨(some 5), none, .mov (.c (.int .i64 1903))⟩]
@[simp] def c_law19_ForestFaults_r16 : List Ir := [⟨(some 39), none, .bin .eql 49 (.t 11) (.c (.int .u64 3))⟩,
  ⟨(some 38), none, .mov (.t 39)⟩]
@[simp] def c_law19_ForestFaults_r17 : List Ir := [⟨(some 41), none, .mov (.t 3)⟩,
  ⟨(some 42), none, .call f_forest_Label [(.t 41), (.c (.string ⟨#[98, 97, 115, 101]⟩)), (.c (.string ⟨#[102, 111, 117, 114]⟩))]⟩,
  ⟨(some 40), none, .mov (.t 42)⟩,
  ⟨(some 43), none, .ext 0 (.t 40)⟩,
  ⟨(some 44), none, .ext 1 (.t 40)⟩,
  ⟨(some 4), none, .mov (.t 44)⟩]
@[simp] def c_law19_ForestFaults_r18 : List Ir := [⟨(some 5), none, .mov (.c (.int .i64 1911))⟩]
@[simp] def c_law19_ForestFaults_r19 : List Ir := [⟨(some 46), none, .bin .eql 49 (.t 11) (.c (.int .u64 4))⟩,
  ⟨(some 45), none, .mov (.t 46)⟩]
@[simp] def c_law19_ForestFaults_r20 : List Ir := [⟨(some 48), none, .mov (.t 3)⟩,
  ⟨(some 49), none, .call f_forest_Write [(.t 48), (.c (.string ⟨#[110, 111, 110, 101]⟩)), (.c (.string ⟨#[]⟩)), (.c (.string ⟨#[115, 101, 118, 101, 110, 55, 55]⟩))]⟩,
  ⟨(some 47), none, .mov (.t 49)⟩,
  ⟨(some 50), none, .ext 0 (.t 47)⟩,
  ⟨(some 51), none, .ext 1 (.t 47)⟩,
  ⟨(some 4), none, .mov (.t 51)⟩]
@[simp] def c_law19_ForestFaults_r21 : List Ir := [⟨(some 5), none, .mov (.c (.int .i64 1903))⟩]
@[simp] def c_law19_ForestFaults_r22 : List Ir := [⟨(some 53), none, .bin .eql 49 (.t 11) (.c (.int .u64 5))⟩,
  ⟨(some 52), none, .mov (.t 53)⟩]
@[simp] def c_law19_ForestFaults_r23 : List Ir := [⟨(some 55), none, .mov (.t 3)⟩,
  ⟨(some 56), none, .call f_forest_Write [(.t 55), (.c (.string ⟨#[98, 97, 115, 101]⟩)), (.c (.string ⟨#[]⟩)), (.c (.string ⟨#[115, 101, 118, 101, 110, 55, 55]⟩))]⟩,
  ⟨(some 54), none, .mov (.t 56)⟩,
  ⟨(some 57), none, .ext 0 (.t 54)⟩,
  ⟨(some 58), none, .ext 1 (.t 54)⟩,
  ⟨(some 4), none, .mov (.t 58)⟩]
@[simp] def c_law19_ForestFaults_r24 : List Ir := [⟨(some 5), none, .mov (.c (.int .i64 1905))⟩]
@[simp] def c_law19_ForestFaults_r25 : List Ir := [⟨(some 60), none, .bin .eql 49 (.t 11) (.c (.int .u64 6))⟩,
  ⟨(some 59), none, .mov (.t 60)⟩]
@[simp] def c_law19_ForestFaults_r26 : List Ir := [⟨(some 62), none, .mov (.t 3)⟩,
  ⟨(some 63), none, .call f_forest_Write [(.t 62), (.c (.string ⟨#[119, 111, 114, 107]⟩)), (.c (.string ⟨#[]⟩)), (.c (.string ⟨#[115, 101, 118, 101, 110, 55, 55]⟩))]⟩,
  ⟨(some 61), none, .mov (.t 63)⟩,
  ⟨(some 64), none, .ext 0 (.t 61)⟩,
  ⟨(some 65), none, .ext 1 (.t 61)⟩,
  ⟨(some 4), none, .mov (.t 65)⟩]
@[simp] def c_law19_ForestFaults_r27 : List Ir := [⟨(some 5), none, .mov (.c (.int .i64 1907))⟩]
@[simp] def c_law19_ForestFaults_r28 : List Ir := [⟨(some 67), none, .bin .eql 49 (.t 11) (.c (.int .u64 7))⟩,
  ⟨(some 66), none, .mov (.t 67)⟩]
@[simp] def c_law19_ForestFaults_r29 : List Ir := [⟨(some 69), none, .mov (.t 3)⟩,
  ⟨(some 70), none, .call f_forest_Write [(.t 69), (.c (.string ⟨#[119, 111, 114, 107]⟩)), (.c (.string ⟨#[99]⟩)), (.c (.string ⟨#[115, 101, 118, 101, 110, 55, 55]⟩))]⟩,
  ⟨(some 68), none, .mov (.t 70)⟩,
  ⟨(some 71), none, .ext 0 (.t 68)⟩,
  ⟨(some 72), none, .ext 1 (.t 68)⟩,
  ⟨(some 4), none, .mov (.t 72)⟩]
@[simp] def c_law19_ForestFaults_r30 : List Ir := [⟨(some 5), none, .mov (.c (.int .i64 1909))⟩]
@[simp] def c_law19_ForestFaults_r31 : List Ir := [⟨(some 74), none, .bin .eql 49 (.t 11) (.c (.int .u64 8))⟩,
  ⟨(some 73), none, .mov (.t 74)⟩]
@[simp] def c_law19_ForestFaults_r32 : List Ir := [⟨(some 76), none, .mov (.t 3)⟩,
  ⟨(some 77), none, .call f_forest_Delete [(.t 76), (.c (.string ⟨#[98, 97, 115, 101]⟩)), (.c (.string ⟨#[]⟩))]⟩,
  ⟨(some 75), none, .mov (.t 77)⟩,
  ⟨(some 78), none, .ext 0 (.t 75)⟩,
  ⟨(some 79), none, .ext 1 (.t 75)⟩,
  ⟨(some 4), none, .mov (.t 79)⟩]
@[simp] def c_law19_ForestFaults_r33 : List Ir := [⟨(some 5), none, .mov (.c (.int .i64 1905))⟩]
@[simp] def c_law19_ForestFaults_r34 : List Ir := [⟨(some 81), none, .bin .eql 49 (.t 11) (.c (.int .u64 9))⟩,
  ⟨(some 80), none, .mov (.t 81)⟩]
@[simp] def c_law19_ForestFaults_r35 : List Ir := [⟨(some 83), none, .mov (.t 3)⟩,
  ⟨(some 84), none, .call f_forest_Delete [(.t 83), (.c (.string ⟨#[119, 111, 114, 107]⟩)), (.c (.string ⟨#[]⟩))]⟩,
  ⟨(some 82), none, .mov (.t 84)⟩,
  ⟨(some 85), none, .ext 0 (.t 82)⟩,
  ⟨(some 86), none, .ext 1 (.t 82)⟩,
  ⟨(some 4), none, .mov (.t 86)⟩]
@[simp] def c_law19_ForestFaults_r36 : List Ir := [⟨(some 5), none, .mov (.c (.int .i64 1907))⟩]
@[simp] def c_law19_ForestFaults_r37 : List Ir := [⟨(some 13), none, .mov (.t 3)⟩,
  ⟨(some 14), none, .call f_forest_Delete [(.t 13), (.c (.string ⟨#[119, 111, 114, 107]⟩)), (.c (.string ⟨#[99]⟩))]⟩,
  ⟨(some 12), none, .mov (.t 14)⟩,
  ⟨(some 15), none, .ext 0 (.t 12)⟩,
  ⟨(some 16), none, .ext 1 (.t 12)⟩,
  ⟨(some 4), none, .mov (.t 16)⟩]
@[simp] def c_law19_ForestFaults_r38 : List Ir := [⟨(some 5), none, .mov (.c (.int .i64 1908))⟩]
@[simp] def c_law19_ForestFaults_r39 : List Ir := [⟨(some 87), none, .mov (.t 4)⟩,
  ⟨(some 88), none, .call f_law0_Num [(.t 87)]⟩,
  ⟨(some 89), none, .mov (.t 5)⟩,
  ⟨(some 90), none, .bin .eql 3 (.t 88) (.t 89)⟩,
  ⟨(some 2), none, .mov (.t 90)⟩]
@[simp] def c_law19_ForestFaults : IFn := ⟨(.seq (.reg c_law19_ForestFaults_r0) (.seq (.seq (.reg c_law19_ForestFaults_r1) (.cond (.t 7) (.seq (.reg c_law19_ForestFaults_r2) .ret) .skip)) (.seq (.reg c_law19_ForestFaults_r3) (.seq (.reg c_law19_ForestFaults_r4) (.seq (.reg c_law19_ForestFaults_r5) (.seq (.seq (.reg c_law19_ForestFaults_r6) (.block 0 (.seq (.reg c_law19_ForestFaults_r7) (.cond (.t 17) (.seq (.reg c_law19_ForestFaults_r8) (.reg c_law19_ForestFaults_r9)) (.seq (.reg c_law19_ForestFaults_r10) (.cond (.t 24) (.seq (.reg c_law19_ForestFaults_r11) (.reg c_law19_ForestFaults_r12)) (.seq (.reg c_law19_ForestFaults_r13) (.cond (.t 31) (.seq (.reg c_law19_ForestFaults_r14) (.reg c_law19_ForestFaults_r15)) (.seq (.reg c_law19_ForestFaults_r16) (.cond (.t 38) (.seq (.reg c_law19_ForestFaults_r17) (.reg c_law19_ForestFaults_r18)) (.seq (.reg c_law19_ForestFaults_r19) (.cond (.t 45) (.seq (.reg c_law19_ForestFaults_r20) (.reg c_law19_ForestFaults_r21)) (.seq (.reg c_law19_ForestFaults_r22) (.cond (.t 52) (.seq (.reg c_law19_ForestFaults_r23) (.reg c_law19_ForestFaults_r24)) (.seq (.reg c_law19_ForestFaults_r25) (.cond (.t 59) (.seq (.reg c_law19_ForestFaults_r26) (.reg c_law19_ForestFaults_r27)) (.seq (.reg c_law19_ForestFaults_r28) (.cond (.t 66) (.seq (.reg c_law19_ForestFaults_r29) (.reg c_law19_ForestFaults_r30)) (.seq (.reg c_law19_ForestFaults_r31) (.cond (.t 73) (.seq (.reg c_law19_ForestFaults_r32) (.reg c_law19_ForestFaults_r33)) (.seq (.reg c_law19_ForestFaults_r34) (.cond (.t 80) (.seq (.reg c_law19_ForestFaults_r35) (.reg c_law19_ForestFaults_r36)) (.seq (.reg c_law19_ForestFaults_r37) (.reg c_law19_ForestFaults_r38)))))))))))))))))))))))) (.seq (.reg c_law19_ForestFaults_r39) .ret))))))), 91, [.tmp 2]⟩

theorem fc_law19_ForestFaults : fnAt Try.prog f_law19_ForestFaults = some c_law19_ForestFaults := by kernel_rfl
@[simp] def c_law19_ForestCommits_r0 : List Ir := [⟨(some 8), none, .mov (.c (.bool false))⟩]
@[simp] def c_law19_ForestCommits_r1 : List Ir := [⟨(some 19), none, .call f_law19_awake []⟩,
  ⟨(some 20), none, .un .not (.t 19)⟩]
@[simp] def c_law19_ForestCommits_r2 : List Ir := [⟨(some 8), none, .mov (.c (.bool false))⟩]
@[simp] def c_law19_ForestCommits_r3 : List Ir := [⟨(some 22), none, .mov (.t 0)⟩,
  ⟨(some 23), none, .mov (.t 1)⟩,
  ⟨(some 24), none, .mov (.t 2)⟩,
  ⟨(some 25), none, .call f_forest_Commit [(.t 22), (.t 23), (.t 24)]⟩,
  ⟨(some 21), none, .mov (.t 25)⟩,
  ⟨(some 26), none, .ext 0 (.t 21)⟩,
  ⟨(some 27), none, .ext 1 (.t 21)⟩,
  ⟨(some 9), none, .mov (.t 26)⟩,
  ⟨(some 10), none, .mov (.t 27)⟩]
@[simp] def c_law19_ForestCommits_r4 : List Ir := [⟨(some 28), none, .mov (.t 10)⟩,
  ⟨(some 29), none, .call f_law0_Num [(.t 28)]⟩,
  ⟨(some 30), none, .bin .neq 3 (.t 29) (.c (.int .i64 0))⟩]
@[simp] def c_law19_ForestCommits_r5 : List Ir := [⟨(some 31), none, .mov (.t 9)⟩,
  ⟨(some 32), none, .lenV (.t 31)⟩,
  ⟨(some 33), none, .bin .eql 3 (.t 32) (.c (.int .i64 0))⟩,
  ⟨(some 8), none, .mov (.t 33)⟩]
@[simp] def c_law19_ForestCommits_r6 : List Ir := [⟨(some 11), none, .new [(.string ⟨#[]⟩), (.int .i64 0), (.string ⟨#[]⟩), (.string ⟨#[]⟩), (.slice none 0 0)]⟩,
  ⟨(some 12), none, .new [(.string ⟨#[]⟩), (.int .i64 0), (.string ⟨#[]⟩), (.string ⟨#[]⟩), (.slice none 0 0)]⟩]
@[simp] def c_law19_ForestCommits_r7 : List Ir := [⟨(some 13), none, .mov (.c (.int .i64 0))⟩]
@[simp] def c_law19_ForestCommits_r8 : List Ir := [⟨(some 34), none, .mov (.t 13)⟩,
  ⟨(some 35), none, .mov (.t 0)⟩,
  ⟨(some 36), none, .lenV (.t 35)⟩,
  ⟨(some 37), none, .bin .lss 3 (.t 34) (.t 36)⟩]
@[simp] def c_law19_ForestCommits_r9 : List Ir := [⟨(some 40), none, .mov (.t 0)⟩,
  ⟨(some 41), none, .mov (.t 13)⟩,
  ⟨(some 42), none, .iadrS 5 (.t 40) (.t 41)⟩,
  ⟨(some 43), none, .fadr 0 (.t 42)⟩,
  ⟨(some 44), none, .ld (.t 43)⟩,
  ⟨(some 45), none, .mov (.t 1)⟩,
  ⟨(some 46), none, .bin .eql 9 (.t 44) (.t 45)⟩]
@[simp] def c_law19_ForestCommits_r10 : List Ir := [⟨(some 47), none, .mov (.t 0)⟩,
  ⟨(some 48), none, .mov (.t 13)⟩,
  ⟨(some 49), none, .iadrS 5 (.t 47) (.t 48)⟩,
  ⟨(some 50), none, .ldn 5 (.t 49)⟩,
  ⟨none, none, .st 5 (.t 11) (.t 50)⟩]
@[simp] def c_law19_ForestCommits_r11 : List Ir := [⟨(some 38), none, .mov (.t 13)⟩,
  ⟨(some 39), none, .bin .add 3 (.t 38) (.c (.int .i64 1))⟩,
  ⟨(some 13), none, .mov (.t 39)⟩]
def c_law19_ForestCommits_l12 : IC := (.seq (.seq (.reg c_law19_ForestCommits_r8) (.cond (.t 37) .skip (.exit 0))) (.seq (.block 1 (.seq (.reg c_law19_ForestCommits_r9) (.cond (.t 46) (.reg c_law19_ForestCommits_r10) .skip))) (.reg c_law19_ForestCommits_r11)))
@[simp] def c_law19_ForestCommits_r13 : List Ir := [⟨(some 14), none, .mov (.c (.bool false))⟩]
@[simp] def c_law19_ForestCommits_r14 : List Ir := [⟨(some 15), none, .mov (.c (.int .i64 0))⟩]
@[simp] def c_law19_ForestCommits_r15 : List Ir := [⟨(some 51), none, .mov (.t 15)⟩,
  ⟨(some 52), none, .mov (.t 9)⟩,
  ⟨(some 53), none, .lenV (.t 52)⟩,
  ⟨(some 54), none, .bin .lss 3 (.t 51) (.t 53)⟩]
@[simp] def c_law19_ForestCommits_r16 : List Ir := [⟨(some 57), none, .mov (.t 9)⟩,
  ⟨(some 58), none, .mov (.t 15)⟩,
  ⟨(some 59), none, .iadrS 5 (.t 57) (.t 58)⟩,
  ⟨(some 60), none, .fadr 0 (.t 59)⟩,
  ⟨(some 61), none, .ld (.t 60)⟩,
  ⟨(some 62), none, .mov (.t 2)⟩,
  ⟨(some 63), none, .bin .eql 9 (.t 61) (.t 62)⟩]
@[simp] def c_law19_ForestCommits_r17 : List Ir := [⟨(some 64), none, .mov (.t 9)⟩,
  ⟨(some 65), none, .mov (.t 15)⟩,
  ⟨(some 66), none, .iadrS 5 (.t 64) (.t 65)⟩,
  ⟨(some 67), none, .ldn 5 (.t 66)⟩,
  ⟨none, none, .st 5 (.t 12) (.t 67)⟩]
@[simp] def c_law19_ForestCommits_r18 : List Ir := [⟨(some 68), none, .mov (.t 14)⟩,
  ⟨(some 69), none, .mov (.t 68)⟩,
  ⟨(some 70), (some (69, false)), .mov (.t 9)⟩,
  ⟨(some 71), (some (69, false)), .mov (.t 15)⟩,
  ⟨(some 72), (some (69, false)), .iadrS 5 (.t 70) (.t 71)⟩,
  ⟨(some 73), (some (69, false)), .fadr 0 (.t 72)⟩,
  ⟨(some 74), (some (69, false)), .ld (.t 73)⟩,
  ⟨(some 75), (some (69, false)), .mov (.t 1)⟩,
  ⟨(some 76), (some (69, false)), .bin .eql 9 (.t 74) (.t 75)⟩,
  ⟨(some 77), none, .pick (.t 69) (.c (.bool true)) (.t 76)⟩,
  ⟨(some 78), none, .mov (.t 77)⟩,
  ⟨(some 79), (some (78, false)), .mov (.t 9)⟩,
  ⟨(some 80), (some (78, false)), .mov (.t 15)⟩,
  ⟨(some 81), (some (78, false)), .iadrS 5 (.t 79) (.t 80)⟩,
  ⟨(some 82), (some (78, false)), .fadr 0 (.t 81)⟩,
  ⟨(some 83), (some (78, false)), .ld (.t 82)⟩,
  ⟨(some 84), (some (78, false)), .mov (.t 3)⟩,
  ⟨(some 85), (some (78, false)), .bin .eql 9 (.t 83) (.t 84)⟩,
  ⟨(some 86), none, .pick (.t 78) (.c (.bool true)) (.t 85)⟩,
  ⟨(some 14), none, .mov (.t 86)⟩]
@[simp] def c_law19_ForestCommits_r19 : List Ir := [⟨(some 55), none, .mov (.t 15)⟩,
  ⟨(some 56), none, .bin .add 3 (.t 55) (.c (.int .i64 1))⟩,
  ⟨(some 15), none, .mov (.t 56)⟩]
def c_law19_ForestCommits_l20 : IC := (.seq (.seq (.reg c_law19_ForestCommits_r15) (.cond (.t 54) .skip (.exit 2))) (.seq (.block 3 (.seq (.seq (.reg c_law19_ForestCommits_r16) (.cond (.t 63) (.reg c_law19_ForestCommits_r17) .skip)) (.reg c_law19_ForestCommits_r18))) (.reg c_law19_ForestCommits_r19)))
@[simp] def c_law19_ForestCommits_r21 : List Ir := [⟨(some 87), none, .mov (.t 2)⟩,
  ⟨(some 88), none, .fadr 0 (.t 11)⟩,
  ⟨none, none, .st 1 (.t 88) (.t 87)⟩]
@[simp] def c_law19_ForestCommits_r22 : List Ir := [⟨(some 89), none, .fadr 1 (.t 11)⟩,
  ⟨none, none, .st 1 (.t 89) (.c (.int .i64 2))⟩]
@[simp] def c_law19_ForestCommits_r23 : List Ir := [⟨(some 91), none, .mov (.t 9)⟩,
  ⟨(some 92), none, .mov (.t 3)⟩,
  ⟨(some 93), none, .mov (.t 2)⟩,
  ⟨(some 94), none, .call f_forest_Prepare [(.t 91), (.t 92), (.t 93), (.c (.int .i64 1))]⟩,
  ⟨(some 90), none, .mov (.t 94)⟩,
  ⟨(some 95), none, .ext 0 (.t 90)⟩,
  ⟨(some 96), none, .ext 1 (.t 90)⟩,
  ⟨(some 16), none, .mov (.t 95)⟩,
  ⟨(some 17), none, .mov (.t 96)⟩]
@[simp] def c_law19_ForestCommits_r24 : List Ir := [⟨(some 97), none, .mov (.t 17)⟩,
  ⟨(some 98), none, .call f_law0_Num [(.t 97)]⟩,
  ⟨(some 99), none, .bin .eql 3 (.t 98) (.c (.int .i64 0))⟩,
  ⟨(some 100), none, .mov (.t 99)⟩,
  ⟨(some 101), (some (100, true)), .mov (.t 16)⟩,
  ⟨(some 102), (some (100, true)), .lenV (.t 101)⟩,
  ⟨(some 103), (some (100, true)), .mov (.t 9)⟩,
  ⟨(some 104), (some (100, true)), .lenV (.t 103)⟩,
  ⟨(some 105), (some (100, true)), .bin .add 3 (.t 104) (.c (.int .i64 1))⟩,
  ⟨(some 106), (some (100, true)), .bin .eql 3 (.t 102) (.t 105)⟩,
  ⟨(some 107), none, .pick (.t 100) (.t 106) (.c (.bool false))⟩,
  ⟨(some 18), none, .mov (.t 107)⟩]
@[simp] def c_law19_ForestCommits_r25 : List Ir := [⟨(some 108), none, .ldn 5 (.t 11)⟩,
  ⟨(some 109), none, .ldn 5 (.t 12)⟩,
  ⟨(some 110), none, .call f_law0_SameInfo [(.t 108), (.t 109)]⟩,
  ⟨(some 111), none, .mov (.t 110)⟩,
  ⟨(some 112), (some (111, true)), .mov (.t 9)⟩,
  ⟨(some 113), (some (111, true)), .lenV (.t 112)⟩,
  ⟨(some 114), (some (111, true)), .mov (.t 0)⟩,
  ⟨(some 115), (some (111, true)), .lenV (.t 114)⟩,
  ⟨(some 116), (some (111, true)), .bin .eql 3 (.t 113) (.t 115)⟩,
  ⟨(some 117), none, .pick (.t 111) (.t 116) (.c (.bool false))⟩,
  ⟨(some 118), none, .mov (.t 117)⟩,
  ⟨(some 119), (some (118, true)), .mov (.t 9)⟩,
  ⟨(some 120), (some (118, true)), .call f_forest_May [(.t 119)]⟩,
  ⟨(some 121), none, .pick (.t 118) (.t 120) (.c (.bool false))⟩,
  ⟨(some 122), none, .mov (.t 121)⟩,
  ⟨(some 123), (some (122, true)), .mov (.t 14)⟩,
  ⟨(some 124), (some (122, true)), .mov (.t 123)⟩,
  ⟨(some 125), (some (124, false)), .mov (.t 9)⟩,
  ⟨(some 126), (some (124, false)), .lenV (.t 125)⟩,
  ⟨(some 127), (some (124, false)), .bin .geq 3 (.t 126) (.c (.int .i64 6))⟩,
  ⟨(some 128), (some (122, true)), .pick (.t 124) (.c (.bool true)) (.t 127)⟩,
  ⟨(some 129), (some (122, true)), .mov (.t 128)⟩,
  ⟨(some 130), (some (129, false)), .mov (.t 3)⟩,
  ⟨(some 131), (some (129, false)), .lenS (.t 130)⟩,
  ⟨(some 132), (some (129, false)), .bin .lss 3 (.t 131) (.c (.int .i64 1))⟩,
  ⟨(some 133), (some (122, true)), .pick (.t 129) (.c (.bool true)) (.t 132)⟩,
  ⟨(some 134), (some (122, true)), .mov (.t 133)⟩,
  ⟨(some 135), (some (134, false)), .mov (.t 18)⟩,
  ⟨(some 136), (some (122, true)), .pick (.t 134) (.c (.bool true)) (.t 135)⟩,
  ⟨(some 137), (some (122, true)), .mov (.t 136)⟩,
  ⟨(some 138), (some (137, false)), .mov (.t 17)⟩,
  ⟨(some 139), (some (137, false)), .call f_law0_Num [(.t 138)]⟩,
  ⟨(some 140), (some (137, false)), .bin .eql 3 (.t 139) (.c (.int .i64 1901))⟩,
  ⟨(some 141), (some (122, true)), .pick (.t 137) (.c (.bool true)) (.t 140)⟩,
  ⟨(some 142), none, .pick (.t 122) (.t 141) (.c (.bool false))⟩,
  ⟨(some 8), none, .mov (.t 142)⟩]
@[simp] def c_law19_ForestCommits : IFn := ⟨(.seq (.reg c_law19_ForestCommits_r0) (.seq (.seq (.reg c_law19_ForestCommits_r1) (.cond (.t 20) (.seq (.reg c_law19_ForestCommits_r2) .ret) .skip)) (.seq (.reg c_law19_ForestCommits_r3) (.seq (.seq (.reg c_law19_ForestCommits_r4) (.cond (.t 30) (.seq (.reg c_law19_ForestCommits_r5) .ret) .skip)) (.seq (.reg c_law19_ForestCommits_r6) (.seq (.seq (.reg c_law19_ForestCommits_r7) (.block 0 (.loop c_law19_ForestCommits_l12))) (.seq (.reg c_law19_ForestCommits_r13) (.seq (.seq (.reg c_law19_ForestCommits_r14) (.block 2 (.loop c_law19_ForestCommits_l20))) (.seq (.reg c_law19_ForestCommits_r21) (.seq (.reg c_law19_ForestCommits_r22) (.seq (.reg c_law19_ForestCommits_r23) (.seq (.reg c_law19_ForestCommits_r24) (.seq (.reg c_law19_ForestCommits_r25) .ret))))))))))))), 143, [.tmp 8]⟩

theorem fc_law19_ForestCommits : fnAt Try.prog f_law19_ForestCommits = some c_law19_ForestCommits := by kernel_rfl
@[simp] def c_law19_ForestRemoves_r0 : List Ir := [⟨(some 4), none, .mov (.c (.bool false))⟩]
@[simp] def c_law19_ForestRemoves_r1 : List Ir := [⟨(some 11), none, .call f_law19_awake []⟩,
  ⟨(some 12), none, .un .not (.t 11)⟩]
@[simp] def c_law19_ForestRemoves_r2 : List Ir := [⟨(some 4), none, .mov (.c (.bool false))⟩]
@[simp] def c_law19_ForestRemoves_r3 : List Ir := [⟨(some 14), none, .mov (.t 0)⟩,
  ⟨(some 15), none, .mov (.t 1)⟩,
  ⟨(some 16), none, .call f_forest_Remove [(.t 14), (.t 15)]⟩,
  ⟨(some 13), none, .mov (.t 16)⟩,
  ⟨(some 17), none, .ext 0 (.t 13)⟩,
  ⟨(some 18), none, .ext 1 (.t 13)⟩,
  ⟨(some 5), none, .mov (.t 17)⟩,
  ⟨(some 6), none, .mov (.t 18)⟩]
@[simp] def c_law19_ForestRemoves_r4 : List Ir := [⟨(some 19), none, .mov (.t 6)⟩,
  ⟨(some 20), none, .call f_law0_Num [(.t 19)]⟩,
  ⟨(some 21), none, .bin .neq 3 (.t 20) (.c (.int .i64 0))⟩]
@[simp] def c_law19_ForestRemoves_r5 : List Ir := [⟨(some 22), none, .mov (.t 5)⟩,
  ⟨(some 23), none, .lenV (.t 22)⟩,
  ⟨(some 24), none, .bin .eql 3 (.t 23) (.c (.int .i64 0))⟩,
  ⟨(some 4), none, .mov (.t 24)⟩]
@[simp] def c_law19_ForestRemoves_r6 : List Ir := [⟨(some 7), none, .mov (.c (.int .i64 0))⟩]
@[simp] def c_law19_ForestRemoves_r7 : List Ir := [⟨(some 8), none, .mov (.c (.int .i64 0))⟩]
@[simp] def c_law19_ForestRemoves_r8 : List Ir := [⟨(some 25), none, .mov (.t 8)⟩,
  ⟨(some 26), none, .mov (.t 0)⟩,
  ⟨(some 27), none, .lenV (.t 26)⟩,
  ⟨(some 28), none, .bin .lss 3 (.t 25) (.t 27)⟩]
@[simp] def c_law19_ForestRemoves_r9 : List Ir := [⟨(some 31), none, .mov (.t 0)⟩,
  ⟨(some 32), none, .mov (.t 8)⟩,
  ⟨(some 33), none, .iadrS 5 (.t 31) (.t 32)⟩,
  ⟨(some 34), none, .fadr 2 (.t 33)⟩,
  ⟨(some 35), none, .ld (.t 34)⟩,
  ⟨(some 36), none, .mov (.t 1)⟩,
  ⟨(some 37), none, .bin .eql 9 (.t 35) (.t 36)⟩]
@[simp] def c_law19_ForestRemoves_r10 : List Ir := [⟨(some 4), none, .mov (.c (.bool false))⟩]
@[simp] def c_law19_ForestRemoves_r11 : List Ir := [⟨(some 38), none, .mov (.t 0)⟩,
  ⟨(some 39), none, .mov (.t 8)⟩,
  ⟨(some 40), none, .iadrS 5 (.t 38) (.t 39)⟩,
  ⟨(some 41), none, .fadr 0 (.t 40)⟩,
  ⟨(some 42), none, .ld (.t 41)⟩,
  ⟨(some 43), none, .mov (.t 1)⟩,
  ⟨(some 44), none, .bin .eql 9 (.t 42) (.t 43)⟩]
@[simp] def c_law19_ForestRemoves_r12 : List Ir := [⟨(some 45), none, .mov (.t 7)⟩,
  ⟨(some 46), none, .mov (.t 5)⟩,
  ⟨(some 47), none, .lenV (.t 46)⟩,
  ⟨(some 48), none, .bin .geq 3 (.t 45) (.t 47)⟩,
  ⟨(some 49), none, .mov (.t 48)⟩,
  ⟨(some 50), (some (49, false)), .mov (.t 5)⟩,
  ⟨(some 51), (some (49, false)), .mov (.t 7)⟩,
  ⟨(some 52), (some (49, false)), .iadrS 5 (.t 50) (.t 51)⟩,
  ⟨(some 53), (some (49, false)), .ldn 5 (.t 52)⟩,
  ⟨(some 54), (some (49, false)), .mov (.t 0)⟩,
  ⟨(some 55), (some (49, false)), .mov (.t 8)⟩,
  ⟨(some 56), (some (49, false)), .iadrS 5 (.t 54) (.t 55)⟩,
  ⟨(some 57), (some (49, false)), .ldn 5 (.t 56)⟩,
  ⟨(some 58), (some (49, false)), .call f_law0_SameInfo [(.t 53), (.t 57)]⟩,
  ⟨(some 59), (some (49, false)), .un .not (.t 58)⟩,
  ⟨(some 60), none, .pick (.t 49) (.c (.bool true)) (.t 59)⟩]
@[simp] def c_law19_ForestRemoves_r13 : List Ir := [⟨(some 4), none, .mov (.c (.bool false))⟩]
@[simp] def c_law19_ForestRemoves_r14 : List Ir := [⟨(some 61), none, .mov (.t 7)⟩,
  ⟨(some 62), none, .bin .add 3 (.t 61) (.c (.int .i64 1))⟩,
  ⟨(some 7), none, .mov (.t 62)⟩]
@[simp] def c_law19_ForestRemoves_r15 : List Ir := [⟨(some 29), none, .mov (.t 8)⟩,
  ⟨(some 30), none, .bin .add 3 (.t 29) (.c (.int .i64 1))⟩,
  ⟨(some 8), none, .mov (.t 30)⟩]
def c_law19_ForestRemoves_l16 : IC := (.seq (.seq (.reg c_law19_ForestRemoves_r8) (.cond (.t 28) .skip (.exit 0))) (.seq (.block 1 (.seq (.seq (.reg c_law19_ForestRemoves_r9) (.cond (.t 37) (.seq (.reg c_law19_ForestRemoves_r10) .ret) .skip)) (.seq (.seq (.reg c_law19_ForestRemoves_r11) (.cond (.t 44) (.exit 1) .skip)) (.seq (.seq (.regd c_law19_ForestRemoves_r12 []) (.cond (.t 60) (.seq (.reg c_law19_ForestRemoves_r13) .ret) .skip)) (.reg c_law19_ForestRemoves_r14))))) (.reg c_law19_ForestRemoves_r15)))
@[simp] def c_law19_ForestRemoves_r17 : List Ir := [⟨(some 64), none, .mov (.t 5)⟩,
  ⟨(some 65), none, .mov (.t 1)⟩,
  ⟨(some 66), none, .call f_forest_Prepare [(.t 64), (.t 65), (.c (.string ⟨#[]⟩)), (.c (.int .i64 0))]⟩,
  ⟨(some 63), none, .mov (.t 66)⟩,
  ⟨(some 67), none, .ext 0 (.t 63)⟩,
  ⟨(some 68), none, .ext 1 (.t 63)⟩,
  ⟨(some 9), none, .mov (.t 67)⟩,
  ⟨(some 10), none, .mov (.t 68)⟩]
@[simp] def c_law19_ForestRemoves_r18 : List Ir := [⟨(some 69), none, .mov (.t 7)⟩,
  ⟨(some 70), none, .mov (.t 5)⟩,
  ⟨(some 71), none, .lenV (.t 70)⟩,
  ⟨(some 72), none, .bin .eql 3 (.t 69) (.t 71)⟩,
  ⟨(some 73), none, .mov (.t 72)⟩,
  ⟨(some 74), (some (73, true)), .mov (.t 5)⟩,
  ⟨(some 75), (some (73, true)), .lenV (.t 74)⟩,
  ⟨(some 76), (some (73, true)), .mov (.t 0)⟩,
  ⟨(some 77), (some (73, true)), .lenV (.t 76)⟩,
  ⟨(some 78), (some (73, true)), .bin .sub 3 (.t 77) (.c (.int .i64 1))⟩,
  ⟨(some 79), (some (73, true)), .bin .eql 3 (.t 75) (.t 78)⟩,
  ⟨(some 80), none, .pick (.t 73) (.t 79) (.c (.bool false))⟩,
  ⟨(some 81), none, .mov (.t 80)⟩,
  ⟨(some 82), (some (81, true)), .mov (.t 5)⟩,
  ⟨(some 83), (some (81, true)), .call f_forest_May [(.t 82)]⟩,
  ⟨(some 84), none, .pick (.t 81) (.t 83) (.c (.bool false))⟩,
  ⟨(some 85), none, .mov (.t 84)⟩,
  ⟨(some 86), (some (85, true)), .mov (.t 10)⟩,
  ⟨(some 87), (some (85, true)), .call f_law0_Num [(.t 86)]⟩,
  ⟨(some 88), (some (85, true)), .bin .eql 3 (.t 87) (.c (.int .i64 0))⟩,
  ⟨(some 89), none, .pick (.t 85) (.t 88) (.c (.bool false))⟩,
  ⟨(some 90), none, .mov (.t 89)⟩,
  ⟨(some 91), (some (90, true)), .mov (.t 9)⟩,
  ⟨(some 92), (some (90, true)), .lenV (.t 91)⟩,
  ⟨(some 93), (some (90, true)), .mov (.t 0)⟩,
  ⟨(some 94), (some (90, true)), .lenV (.t 93)⟩,
  ⟨(some 95), (some (90, true)), .bin .eql 3 (.t 92) (.t 94)⟩,
  ⟨(some 96), none, .pick (.t 90) (.t 95) (.c (.bool false))⟩,
  ⟨(some 4), none, .mov (.t 96)⟩]
@[simp] def c_law19_ForestRemoves : IFn := ⟨(.seq (.reg c_law19_ForestRemoves_r0) (.seq (.seq (.reg c_law19_ForestRemoves_r1) (.cond (.t 12) (.seq (.reg c_law19_ForestRemoves_r2) .ret) .skip)) (.seq (.reg c_law19_ForestRemoves_r3) (.seq (.seq (.reg c_law19_ForestRemoves_r4) (.cond (.t 21) (.seq (.reg c_law19_ForestRemoves_r5) .ret) .skip)) (.seq (.reg c_law19_ForestRemoves_r6) (.seq (.seq (.reg c_law19_ForestRemoves_r7) (.block 0 (.loop c_law19_ForestRemoves_l16))) (.seq (.reg c_law19_ForestRemoves_r17) (.seq (.reg c_law19_ForestRemoves_r18) .ret)))))))), 97, [.tmp 4]⟩

theorem fc_law19_ForestRemoves : fnAt Try.prog f_law19_ForestRemoves = some c_law19_ForestRemoves := by kernel_rfl
end Go.AM
