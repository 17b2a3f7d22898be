import Derived.Test.YtbgidagbogpfkaaR7Code
import Derived.KernelRfl
namespace Go.AM
open Go.Proofs
set_option maxRecDepth 1000000
@[simp] def c_law19_ForestForms_r0 : List Ir := [⟨(some 2), none, .mov (.c (.bool false))⟩]
@[simp] def c_law19_ForestForms_r1 : List Ir := [⟨(some 16), none, .call f_law19_awake []⟩,
  ⟨(some 17), none, .un .not (.t 16)⟩]
@[simp] def c_law19_ForestForms_r2 : List Ir := [⟨(some 2), none, .mov (.c (.bool false))⟩]
@[simp] def c_law19_ForestForms_r3 : List Ir := [⟨(some 18), none, .call f_law19_given []⟩,
  ⟨(some 3), none, .mov (.t 18)⟩]
@[simp] def c_law19_ForestForms_r4 : List Ir := [⟨(some 19), none, .mov (.t 0)⟩,
  ⟨(some 20), none, .ii .u64 (.t 19)⟩,
  ⟨(some 21), none, .bin .rem 49 (.t 20) (.c (.int .u64 16))⟩]
@[simp] def c_law19_ForestForms_r5 : List Ir := [⟨(some 29), none, .bin .eql 49 (.t 21) (.c (.int .u64 0))⟩,
  ⟨(some 28), none, .mov (.t 29)⟩]
@[simp] def c_law19_ForestForms_r6 : List Ir := [⟨(some 30), none, .mov (.t 3)⟩,
  ⟨(some 31), none, .iadrS 5 (.t 30) (.c (.int .i64 0))⟩,
  ⟨(some 32), none, .fadr 0 (.t 31)⟩,
  ⟨none, none, .st 1 (.t 32) (.c (.string ⟨#[66]⟩))⟩]
@[simp] def c_law19_ForestForms_r7 : List Ir := [⟨(some 34), none, .bin .eql 49 (.t 21) (.c (.int .u64 1))⟩,
  ⟨(some 33), none, .mov (.t 34)⟩]
@[simp] def c_law19_ForestForms_r8 : List Ir := [⟨(some 35), none, .mov (.t 3)⟩,
  ⟨(some 36), none, .iadrS 5 (.t 35) (.c (.int .i64 1))⟩,
  ⟨(some 37), none, .fadr 0 (.t 36)⟩,
  ⟨none, none, .st 1 (.t 37) (.c (.string ⟨#[98, 97, 115, 101]⟩))⟩]
@[simp] def c_law19_ForestForms_r9 : List Ir := [⟨(some 39), none, .bin .eql 49 (.t 21) (.c (.int .u64 2))⟩,
  ⟨(some 38), none, .mov (.t 39)⟩]
@[simp] def c_law19_ForestForms_r10 : List Ir := [⟨(some 40), none, .mov (.t 3)⟩,
  ⟨(some 41), none, .iadrS 5 (.t 40) (.c (.int .i64 0))⟩,
  ⟨(some 42), none, .fadr 0 (.t 41)⟩,
  ⟨none, none, .st 1 (.t 42) (.c (.string ⟨#[122, 122]⟩))⟩]
@[simp] def c_law19_ForestForms_r11 : List Ir := [⟨(some 44), none, .bin .eql 49 (.t 21) (.c (.int .u64 3))⟩,
  ⟨(some 43), none, .mov (.t 44)⟩]
@[simp] def c_law19_ForestForms_r12 : List Ir := [⟨(some 45), none, .mov (.t 3)⟩,
  ⟨(some 46), none, .iadrS 5 (.t 45) (.c (.int .i64 1))⟩,
  ⟨(some 47), none, .fadr 1 (.t 46)⟩,
  ⟨none, none, .st 1 (.t 47) (.c (.int .i64 3))⟩]
@[simp] def c_law19_ForestForms_r13 : List Ir := [⟨(some 49), none, .bin .eql 49 (.t 21) (.c (.int .u64 4))⟩,
  ⟨(some 48), none, .mov (.t 49)⟩]
@[simp] def c_law19_ForestForms_r14 : List Ir := [⟨(some 50), none, .mov (.t 3)⟩,
  ⟨(some 51), none, .iadrS 5 (.t 50) (.c (.int .i64 1))⟩,
  ⟨(some 52), none, .fadr 2 (.t 51)⟩,
  ⟨none, none, .st 1 (.t 52) (.c (.string ⟨#[110, 111, 110, 101]⟩))⟩]
@[simp] def c_law19_ForestForms_r15 : List Ir := [⟨(some 54), none, .bin .eql 49 (.t 21) (.c (.int .u64 5))⟩,
  ⟨(some 53), none, .mov (.t 54)⟩]
@[simp] def c_law19_ForestForms_r16 : List Ir := [⟨(some 55), none, .mov (.t 3)⟩,
  ⟨(some 56), none, .iadrS 5 (.t 55) (.c (.int .i64 0))⟩,
  ⟨(some 57), none, .fadr 1 (.t 56)⟩,
  ⟨none, none, .st 1 (.t 57) (.c (.int .i64 0))⟩]
@[simp] def c_law19_ForestForms_r17 : List Ir := [⟨(some 59), none, .bin .eql 49 (.t 21) (.c (.int .u64 6))⟩,
  ⟨(some 58), none, .mov (.t 59)⟩]
@[simp] def c_law19_ForestForms_r18 : List Ir := [⟨(some 60), none, .mov (.t 3)⟩,
  ⟨(some 61), none, .iadrS 5 (.t 60) (.c (.int .i64 0))⟩,
  ⟨(some 62), none, .fadr 2 (.t 61)⟩,
  ⟨none, none, .st 1 (.t 62) (.c (.string ⟨#[98, 97, 115, 101]⟩))⟩]
@[simp] def c_law19_ForestForms_r19 : List Ir := [⟨(some 64), none, .bin .eql 49 (.t 21) (.c (.int .u64 7))⟩,
  ⟨(some 63), none, .mov (.t 64)⟩]
@[simp] def c_law19_ForestForms_r20 : List Ir := [⟨(some 65), none, .mov (.t 3)⟩,
  ⟨(some 66), none, .iadrS 5 (.t 65) (.c (.int .i64 0))⟩,
  ⟨(some 67), none, .fadr 3 (.t 66)⟩,
  ⟨none, none, .st 1 (.t 67) (.c (.string ⟨#[102, 111, 117, 114]⟩))⟩]
@[simp] def c_law19_ForestForms_r21 : List Ir := [⟨(some 69), none, .bin .eql 49 (.t 21) (.c (.int .u64 8))⟩,
  ⟨(some 68), none, .mov (.t 69)⟩]
@[simp] def c_law19_ForestForms_r22 : List Ir := [⟨(some 70), none, .mov (.t 3)⟩,
  ⟨(some 71), none, .iadrS 5 (.t 70) (.c (.int .i64 0))⟩,
  ⟨(some 72), none, .fadr 4 (.t 71)⟩,
  ⟨(some 73), none, .ld (.t 72)⟩,
  ⟨(some 74), none, .iadrS 3 (.t 73) (.c (.int .i64 0))⟩,
  ⟨(some 75), none, .fadr 0 (.t 74)⟩,
  ⟨none, none, .st 1 (.t 75) (.c (.string ⟨#[98]⟩))⟩]
@[simp] def c_law19_ForestForms_r23 : List Ir := [⟨(some 77), none, .bin .eql 49 (.t 21) (.c (.int .u64 9))⟩,
  ⟨(some 76), none, .mov (.t 77)⟩]
@[simp] def c_law19_ForestForms_r24 : List Ir := [⟨(some 78), none, .mov (.t 3)⟩,
  ⟨(some 79), none, .iadrS 5 (.t 78) (.c (.int .i64 0))⟩,
  ⟨(some 80), none, .fadr 4 (.t 79)⟩,
  ⟨(some 81), none, .ld (.t 80)⟩,
  ⟨(some 82), none, .iadrS 3 (.t 81) (.c (.int .i64 1))⟩,
  ⟨(some 83), none, .fadr 0 (.t 82)⟩,
  ⟨none, none, .st 1 (.t 83) (.c (.string ⟨#[]⟩))⟩]
@[simp] def c_law19_ForestForms_r25 : List Ir := [⟨(some 85), none, .bin .eql 49 (.t 21) (.c (.int .u64 10))⟩,
  ⟨(some 84), none, .mov (.t 85)⟩]
@[simp] def c_law19_ForestForms_r26 : List Ir := [⟨(some 86), none, .mov (.t 3)⟩,
  ⟨(some 87), none, .iadrS 5 (.t 86) (.c (.int .i64 1))⟩,
  ⟨(some 88), none, .fadr 4 (.t 87)⟩,
  ⟨(some 89), none, .ld (.t 88)⟩,
  ⟨(some 90), none, .iadrS 3 (.t 89) (.c (.int .i64 0))⟩,
  ⟨(some 91), none, .fadr 1 (.t 90)⟩,
  ⟨none, none, .st 1 (.t 91) (.c (.string ⟨#[115, 101, 118, 101, 110, 55, 55]⟩))⟩]
@[simp] def c_law19_ForestForms_r27 : List Ir := [⟨(some 93), none, .bin .eql 49 (.t 21) (.c (.int .u64 11))⟩,
  ⟨(some 92), none, .mov (.t 93)⟩]
@[simp] def c_law19_ForestForms_r28 : List Ir := [⟨(some 94), none, .mov (.t 3)⟩,
  ⟨(some 95), none, .iadrS 5 (.t 94) (.c (.int .i64 1))⟩,
  ⟨(some 96), none, .fadr 1 (.t 95)⟩,
  ⟨none, none, .st 1 (.t 96) (.c (.int .i64 1))⟩]
@[simp] def c_law19_ForestForms_r29 : List Ir := [⟨(some 98), none, .bin .eql 49 (.t 21) (.c (.int .u64 12))⟩,
  ⟨(some 97), none, .mov (.t 98)⟩]
@[simp] def c_law19_ForestForms_r30 : List Ir := [⟨(some 99), none, .mov (.t 3)⟩,
  ⟨(some 100), none, .mov (.t 3)⟩,
  ⟨(some 101), none, .iadrS 5 (.t 100) (.c (.int .i64 0))⟩,
  ⟨(some 102), none, .fadr 4 (.t 101)⟩,
  ⟨(some 103), none, .ld (.t 102)⟩,
  ⟨(some 104), none, .build [(.string ⟨#[]⟩), (.string ⟨#[]⟩), (.bool false)] [(0, (1, (.c (.string ⟨#[99]⟩))))]⟩,
  ⟨(some 105), none, .build [(.string ⟨#[]⟩), (.string ⟨#[]⟩), (.bool false)] [(0, (1, (.c (.string ⟨#[100]⟩))))]⟩,
  ⟨(some 106), none, .build [(.string ⟨#[]⟩), (.string ⟨#[]⟩), (.bool false)] [(0, (1, (.c (.string ⟨#[101]⟩))))]⟩,
  ⟨(some 107), none, .mkrow 3 3 [(.string ⟨#[]⟩), (.string ⟨#[]⟩), (.bool false), (.string ⟨#[]⟩), (.string ⟨#[]⟩), (.bool false), (.string ⟨#[]⟩), (.string ⟨#[]⟩), (.bool false)] [(0, (3, (.t 104))), (3, (3, (.t 105))), (6, (3, (.t 106)))]⟩,
  ⟨(some 108), none, .app 3 40 (.t 103) (.t 107)⟩,
  ⟨(some 109), none, .iadrS 5 (.t 99) (.c (.int .i64 0))⟩,
  ⟨(some 110), none, .fadr 4 (.t 109)⟩,
  ⟨none, none, .st 1 (.t 110) (.t 108)⟩]
@[simp] def c_law19_ForestForms_r31 : List Ir := [⟨(some 112), none, .bin .eql 49 (.t 21) (.c (.int .u64 13))⟩,
  ⟨(some 111), none, .mov (.t 112)⟩]
@[simp] def c_law19_ForestForms_r32 : List Ir := [⟨(some 113), none, .mov (.t 3)⟩,
  ⟨(some 114), none, .build [(.string ⟨#[]⟩), (.int .i64 0), (.string ⟨#[]⟩), (.string ⟨#[]⟩), (.slice none 0 0)] [(0, (1, (.c (.string ⟨#[120]⟩))))]⟩,
  ⟨(some 115), none, .build [(.string ⟨#[]⟩), (.int .i64 0), (.string ⟨#[]⟩), (.string ⟨#[]⟩), (.slice none 0 0)] [(0, (1, (.c (.string ⟨#[120, 49]⟩))))]⟩,
  ⟨(some 116), none, .build [(.string ⟨#[]⟩), (.int .i64 0), (.string ⟨#[]⟩), (.string ⟨#[]⟩), (.slice none 0 0)] [(0, (1, (.c (.string ⟨#[120, 50]⟩))))]⟩,
  ⟨(some 117), none, .build [(.string ⟨#[]⟩), (.int .i64 0), (.string ⟨#[]⟩), (.string ⟨#[]⟩), (.slice none 0 0)] [(0, (1, (.c (.string ⟨#[120, 51]⟩))))]⟩,
  ⟨(some 118), none, .build [(.string ⟨#[]⟩), (.int .i64 0), (.string ⟨#[]⟩), (.string ⟨#[]⟩), (.slice none 0 0)] [(0, (1, (.c (.string ⟨#[120, 52]⟩))))]⟩,
  ⟨(some 119), none, .mkrow 5 5 [(.string ⟨#[]⟩), (.int .i64 0), (.string ⟨#[]⟩), (.string ⟨#[]⟩), (.slice none 0 0), (.string ⟨#[]⟩), (.int .i64 0), (.string ⟨#[]⟩), (.string ⟨#[]⟩), (.slice none 0 0), (.string ⟨#[]⟩), (.int .i64 0), (.string ⟨#[]⟩), (.string ⟨#[]⟩), (.slice none 0 0), (.string ⟨#[]⟩), (.int .i64 0), (.string ⟨#[]⟩), (.string ⟨#[]⟩), (.slice none 0 0), (.string ⟨#[]⟩), (.int .i64 0), (.string ⟨#[]⟩), (.string ⟨#[]⟩), (.slice none 0 0)] [(0, (5, (.t 114))), (5, (5, (.t 115))), (10, (5, (.t 116))), (15, (5, (.t 117))), (20, (5, (.t 118)))]⟩,
  ⟨(some 120), none, .app 5 80 (.t 113) (.t 119)⟩,
  ⟨(some 3), none, .mov (.t 120)⟩]
@[simp] def c_law19_ForestForms_r33 : List Ir := [⟨(some 122), none, .bin .eql 49 (.t 21) (.c (.int .u64 14))⟩,
  ⟨(some 121), none, .mov (.t 122)⟩]
@[simp] def c_law19_ForestForms_r34 : List Ir := [⟨(some 123), none, .mov (.t 3)⟩,
  ⟨(some 124), none, .iadrS 5 (.t 123) (.c (.int .i64 1))⟩,
  ⟨(some 125), none, .fadr 1 (.t 124)⟩,
  ⟨none, none, .st 1 (.t 125) (.c (.int .i64 2))⟩]
@[simp] def c_law19_ForestForms_r35 : List Ir := [⟨(some 126), none, .mov (.t 3)⟩,
  ⟨(some 127), none, .iadrS 5 (.t 126) (.c (.int .i64 0))⟩,
  ⟨(some 128), none, .fadr 2 (.t 127)⟩,
  ⟨none, none, .st 1 (.t 128) (.c (.string ⟨#[119, 111, 114, 107]⟩))⟩]
@[simp] def c_law19_ForestForms_r36 : List Ir := [⟨(some 22), none, .mov (.t 3)⟩,
  ⟨(some 23), none, .iadrS 5 (.t 22) (.c (.int .i64 0))⟩,
  ⟨(some 24), none, .fadr 4 (.t 23)⟩,
  ⟨(some 25), none, .ld (.t 24)⟩,
  ⟨(some 26), none, .iadrS 3 (.t 25) (.c (.int .i64 0))⟩,
  ⟨(some 27), none, .fadr 0 (.t 26)⟩,
  ⟨none, none, .st 1 (.t 27) (.c (.string ⟨#[108, 111, 110, 103]⟩))⟩]
@[simp] def c_law19_ForestForms_r37 : List Ir := [⟨(some 130), none, .mov (.t 3)⟩,
  ⟨(some 131), none, .call f_forest_Prepare [(.t 130), (.c (.string ⟨#[]⟩)), (.c (.string ⟨#[]⟩)), (.c (.int .i64 9))]⟩,
  ⟨(some 129), none, .mov (.t 131)⟩,
  ⟨(some 132), none, .ext 0 (.t 129)⟩,
  ⟨(some 133), none, .ext 1 (.t 129)⟩,
  ⟨(some 4), none, .mov (.t 132)⟩,
  ⟨(some 5), none, .mov (.t 133)⟩]
@[simp] def c_law19_ForestForms_r38 : List Ir := [⟨(some 135), none, .mov (.t 3)⟩,
  ⟨(some 136), none, .call f_forest_Commit [(.t 135), (.c (.string ⟨#[]⟩)), (.c (.string ⟨#[]⟩))]⟩,
  ⟨(some 134), none, .mov (.t 136)⟩,
  ⟨(some 137), none, .ext 0 (.t 134)⟩,
  ⟨(some 138), none, .ext 1 (.t 134)⟩,
  ⟨(some 6), none, .mov (.t 137)⟩,
  ⟨(some 7), none, .mov (.t 138)⟩]
@[simp] def c_law19_ForestForms_r39 : List Ir := [⟨(some 140), none, .mov (.t 3)⟩,
  ⟨(some 141), none, .call f_forest_Remove [(.t 140), (.c (.string ⟨#[]⟩))]⟩,
  ⟨(some 139), none, .mov (.t 141)⟩,
  ⟨(some 142), none, .ext 0 (.t 139)⟩,
  ⟨(some 143), none, .ext 1 (.t 139)⟩,
  ⟨(some 8), none, .mov (.t 142)⟩,
  ⟨(some 9), none, .mov (.t 143)⟩]
@[simp] def c_law19_ForestForms_r40 : List Ir := [⟨(some 145), none, .mov (.t 3)⟩,
  ⟨(some 146), none, .call f_forest_Label [(.t 145), (.c (.string ⟨#[]⟩)), (.c (.string ⟨#[]⟩))]⟩,
  ⟨(some 144), none, .mov (.t 146)⟩,
  ⟨(some 147), none, .ext 0 (.t 144)⟩,
  ⟨(some 148), none, .ext 1 (.t 144)⟩,
  ⟨(some 10), none, .mov (.t 147)⟩,
  ⟨(some 11), none, .mov (.t 148)⟩]
@[simp] def c_law19_ForestForms_r41 : List Ir := [⟨(some 150), none, .mov (.t 3)⟩,
  ⟨(some 151), none, .call f_forest_Write [(.t 150), (.c (.string ⟨#[]⟩)), (.c (.string ⟨#[]⟩)), (.c (.string ⟨#[]⟩))]⟩,
  ⟨(some 149), none, .mov (.t 151)⟩,
  ⟨(some 152), none, .ext 0 (.t 149)⟩,
  ⟨(some 153), none, .ext 1 (.t 149)⟩,
  ⟨(some 12), none, .mov (.t 152)⟩,
  ⟨(some 13), none, .mov (.t 153)⟩]
@[simp] def c_law19_ForestForms_r42 : List Ir := [⟨(some 155), none, .mov (.t 3)⟩,
  ⟨(some 156), none, .call f_forest_Delete [(.t 155), (.c (.string ⟨#[]⟩)), (.c (.string ⟨#[]⟩))]⟩,
  ⟨(some 154), none, .mov (.t 156)⟩,
  ⟨(some 157), none, .ext 0 (.t 154)⟩,
  ⟨(some 158), none, .ext 1 (.t 154)⟩,
  ⟨(some 14), none, .mov (.t 157)⟩,
  ⟨(some 15), none, .mov (.t 158)⟩]
@[simp] def c_law19_ForestForms_r43 : List Ir := [⟨(some 159), none, .call f_law19_given []⟩,
  ⟨(some 160), none, .call f_forest_May [(.t 159)]⟩,
  ⟨(some 161), none, .mov (.t 160)⟩,
  ⟨(some 162), (some (161, true)), .mov (.t 3)⟩,
  ⟨(some 163), (some (161, true)), .call f_forest_May [(.t 162)]⟩,
  ⟨(some 164), (some (161, true)), .un .not (.t 163)⟩,
  ⟨(some 165), none, .pick (.t 161) (.t 164) (.c (.bool false))⟩,
  ⟨(some 166), none, .mov (.t 165)⟩,
  ⟨(some 167), (some (166, true)), .mov (.t 5)⟩,
  ⟨(some 168), (some (166, true)), .call f_law0_Num [(.t 167)]⟩,
  ⟨(some 169), (some (166, true)), .bin .eql 3 (.t 168) (.c (.int .i64 1900))⟩,
  ⟨(some 170), none, .pick (.t 166) (.t 169) (.c (.bool false))⟩,
  ⟨(some 171), none, .mov (.t 170)⟩,
  ⟨(some 172), (some (171, true)), .mov (.t 7)⟩,
  ⟨(some 173), (some (171, true)), .call f_law0_Num [(.t 172)]⟩,
  ⟨(some 174), (some (171, true)), .bin .eql 3 (.t 173) (.c (.int .i64 1900))⟩,
  ⟨(some 175), none, .pick (.t 171) (.t 174) (.c (.bool false))⟩,
  ⟨(some 176), none, .mov (.t 175)⟩,
  ⟨(some 177), (some (176, true)), .mov (.t 9)⟩,
  ⟨(some 178), (some (176, true)), .call f_law0_Num [(.t 177)]⟩,
  ⟨(some 179), (some (176, true)), .bin .eql 3 (.t 178) (.c (.int .i64 1900))⟩,
  ⟨(some 180), none, .pick (.t 176) (.t 179) (.c (.bool false))⟩,
  ⟨(some 181), none, .mov (.t 180)⟩,
  ⟨(some 182), (some (181, true)), .mov (.t 11)⟩,
  ⟨(some 183), (some (181, true)), .call f_law0_Num [(.t 182)]⟩,
  ⟨(some 184), (some (181, true)), .bin .eql 3 (.t 183) (.c (.int .i64 1900))⟩,
  ⟨(some 185), none, .pick (.t 181) (.t 184) (.c (.bool false))⟩,
  ⟨(some 186), none, .mov (.t 185)⟩,
  ⟨(some 187), (some (186, true)), .mov (.t 13)⟩,
  ⟨(some 188), (some (186, true)), .call f_law0_Num [(.t 187)]⟩,
  ⟨(some 189), (some (186, true)), .bin .eql 3 (.t 188) (.c (.int .i64 1900))⟩,
  ⟨(some 190), none, .pick (.t 186) (.t 189) (.c (.bool false))⟩,
  ⟨(some 191), none, .mov (.t 190)⟩,
  ⟨(some 192), (some (191, true)), .mov (.t 15)⟩,
  ⟨(some 193), (some (191, true)), .call f_law0_Num [(.t 192)]⟩,
  ⟨(some 194), (some (191, true)), .bin .eql 3 (.t 193) (.c (.int .i64 1900))⟩,
  ⟨(some 195), none, .pick (.t 191) (.t 194) (.c (.bool false))⟩,
  ⟨(some 2), none, .mov (.t 195)⟩]
@[simp] def c_law19_ForestForms : IFn := ⟨(.seq (.reg c_law19_ForestForms_r0) (.seq (.seq (.reg c_law19_ForestForms_r1) (.cond (.t 17) (.seq (.reg c_law19_ForestForms_r2) .ret) .skip)) (.seq (.reg c_law19_ForestForms_r3) (.seq (.seq (.reg c_law19_ForestForms_r4) (.block 0 (.seq (.reg c_law19_ForestForms_r5) (.cond (.t 28) (.reg c_law19_ForestForms_r6) (.seq (.reg c_law19_ForestForms_r7) (.cond (.t 33) (.reg c_law19_ForestForms_r8) (.seq (.reg c_law19_ForestForms_r9) (.cond (.t 38) (.reg c_law19_ForestForms_r10) (.seq (.reg c_law19_ForestForms_r11) (.cond (.t 43) (.reg c_law19_ForestForms_r12) (.seq (.reg c_law19_ForestForms_r13) (.cond (.t 48) (.reg c_law19_ForestForms_r14) (.seq (.reg c_law19_ForestForms_r15) (.cond (.t 53) (.reg c_law19_ForestForms_r16) (.seq (.reg c_law19_ForestForms_r17) (.cond (.t 58) (.reg c_law19_ForestForms_r18) (.seq (.reg c_law19_ForestForms_r19) (.cond (.t 63) (.reg c_law19_ForestForms_r20) (.seq (.reg c_law19_ForestForms_r21) (.cond (.t 68) (.reg c_law19_ForestForms_r22) (.seq (.reg c_law19_ForestForms_r23) (.cond (.t 76) (.reg c_law19_ForestForms_r24) (.seq (.reg c_law19_ForestForms_r25) (.cond (.t 84) (.reg c_law19_ForestForms_r26) (.seq (.reg c_law19_ForestForms_r27) (.cond (.t 92) (.reg c_law19_ForestForms_r28) (.seq (.reg c_law19_ForestForms_r29) (.cond (.t 97) (.reg c_law19_ForestForms_r30) (.seq (.reg c_law19_ForestForms_r31) (.cond (.t 111) (.reg c_law19_ForestForms_r32) (.seq (.reg c_law19_ForestForms_r33) (.cond (.t 121) (.seq (.reg c_law19_ForestForms_r34) (.reg c_law19_ForestForms_r35)) (.reg c_law19_ForestForms_r36))))))))))))))))))))))))))))))))) (.seq (.reg c_law19_ForestForms_r37) (.seq (.reg c_law19_ForestForms_r38) (.seq (.reg c_law19_ForestForms_r39) (.seq (.reg c_law19_ForestForms_r40) (.seq (.reg c_law19_ForestForms_r41) (.seq (.reg c_law19_ForestForms_r42) (.seq (.reg c_law19_ForestForms_r43) .ret))))))))))), 196, [.tmp 2]⟩

theorem fc_law19_ForestForms : fnAt Try.prog f_law19_ForestForms = some c_law19_ForestForms := by kernel_rfl
@[simp] def c_law19_ForestErrors_r0 : List Ir := [⟨(some 2), none, .mov (.c (.bool false))⟩]
@[simp] def c_law19_ForestErrors_r1 : List Ir := [⟨(some 8), none, .call f_law19_awake []⟩,
  ⟨(some 9), none, .un .not (.t 8)⟩]
@[simp] def c_law19_ForestErrors_r2 : List Ir := [⟨(some 2), none, .mov (.c (.bool false))⟩]
@[simp] def c_law19_ForestErrors_r3 : List Ir := [⟨(some 10), none, .call f_law19_given []⟩,
  ⟨(some 3), none, .mov (.t 10)⟩]
@[simp] def c_law19_ForestErrors_r4 : List Ir := [⟨(some 11), none, .call f_law19_given []⟩,
  ⟨(some 4), none, .mov (.t 11)⟩]
@[simp] def c_law19_ForestErrors_r5 : List Ir := [⟨(some 5), none, .mov (.c (.int .i64 0))⟩]
@[simp] def c_law19_ForestErrors_r6 : List Ir := [⟨(some 12), none, .mov (.t 5)⟩,
  ⟨(some 13), none, .bin .lss 3 (.t 12) (.c (.int .i64 4))⟩]
@[simp] def c_law19_ForestErrors_r7 : List Ir := [⟨(some 16), none, .mov (.t 4)⟩,
  ⟨(some 17), none, .mov (.t 5)⟩,
  ⟨(some 18), none, .bin .add 3 (.c (.int .i64 48)) (.t 17)⟩,
  ⟨(some 19), none, .ii .u8 (.t 18)⟩,
  ⟨(some 20), none, .mkrow 1 1 [(.int .u8 0)] [(0, (1, (.t 19)))]⟩,
  ⟨(some 21), none, .b2s (.t 20)⟩,
  ⟨(some 22), none, .bin .add 9 (.c (.string ⟨#[120]⟩)) (.t 21)⟩,
  ⟨(some 23), none, .build [(.string ⟨#[]⟩), (.int .i64 0), (.string ⟨#[]⟩), (.string ⟨#[]⟩), (.slice none 0 0)] [(0, (1, (.t 22)))]⟩,
  ⟨(some 24), none, .mkrow 5 1 [(.string ⟨#[]⟩), (.int .i64 0), (.string ⟨#[]⟩), (.string ⟨#[]⟩), (.slice none 0 0)] [(0, (5, (.t 23)))]⟩,
  ⟨(some 25), none, .app 5 80 (.t 16) (.t 24)⟩,
  ⟨(some 4), none, .mov (.t 25)⟩]
@[simp] def c_law19_ForestErrors_r8 : List Ir := [⟨(some 14), none, .mov (.t 5)⟩,
  ⟨(some 15), none, .bin .add 3 (.t 14) (.c (.int .i64 1))⟩,
  ⟨(some 5), none, .mov (.t 15)⟩]
def c_law19_ForestErrors_l9 : IC := (.seq (.seq (.reg c_law19_ForestErrors_r6) (.cond (.t 13) .skip (.exit 0))) (.seq (.block 1 (.reg c_law19_ForestErrors_r7)) (.reg c_law19_ForestErrors_r8)))
@[simp] def c_law19_ForestErrors_r10 : List Ir := [⟨(some 6), none, .mov (.c (.int .i64 0))⟩]
@[simp] def c_law19_ForestErrors_r11 : List Ir := [⟨(some 7), none, .mov (.c (.int .i64 0))⟩]
@[simp] def c_law19_ForestErrors_r12 : List Ir := [⟨(some 26), none, .mov (.t 0)⟩,
  ⟨(some 27), none, .ii .u64 (.t 26)⟩,
  ⟨(some 28), none, .bin .rem 49 (.t 27) (.c (.int .u64 10))⟩]
@[simp] def c_law19_ForestErrors_r13 : List Ir := [⟨(some 35), none, .bin .eql 49 (.t 28) (.c (.int .u64 0))⟩,
  ⟨(some 34), none, .mov (.t 35)⟩]
@[simp] def c_law19_ForestErrors_r14 : List Ir := [⟨(some 37), none, .mov (.t 3)⟩,
  ⟨(some 38), none, .call f_forest_Prepare [(.t 37), (.c (.string ⟨#[]⟩)), (.c (.string ⟨#[110, 111, 110, 101]⟩)), (.c (.int .i64 9))]⟩,
  ⟨(some 36), none, .mov (.t 38)⟩,
  ⟨(some 39), none, .ext 0 (.t 36)⟩,
  ⟨(some 40), none, .ext 1 (.t 36)⟩,
  ⟨(some 6), none, .mov (.t 40)⟩]
@[simp] def c_law19_ForestErrors_r15 : List Ir := [⟨(some 7), none, .mov (.c (.int .i64 1901))⟩]
@[simp] def c_law19_ForestErrors_r16 : List Ir := [⟨(some 42), none, .bin .eql 49 (.t 28) (.c (.int .u64 1))⟩,
  ⟨(some 41), none, .mov (.t 42)⟩]
@[simp] def c_law19_ForestErrors_r17 : List Ir := [⟨(some 44), none, .mov (.t 3)⟩,
  ⟨(some 45), none, .call f_forest_Prepare [(.t 44), (.c (.string ⟨#[118]⟩)), (.c (.string ⟨#[66]⟩)), (.c (.int .i64 9))]⟩,
  ⟨(some 43), none, .mov (.t 45)⟩,
  ⟨(some 46), none, .ext 0 (.t 43)⟩,
  ⟨(some 47), none, .ext 1 (.t 43)⟩,
  ⟨(some 6), none, .mov (.t 47)⟩]
@[simp] def c_law19_ForestErrors_r18 : List Ir := [⟨(some 7), none, .mov (.c (.int .i64 1901))⟩]
@[simp] def c_law19_ForestErrors_r19 : List Ir := [⟨(some 49), none, .bin .eql 49 (.t 28) (.c (.int .u64 2))⟩,
  ⟨(some 48), none, .mov (.t 49)⟩]
@[simp] def c_law19_ForestErrors_r20 : List Ir := [⟨(some 51), none, .mov (.t 3)⟩,
  ⟨(some 52), none, .call f_forest_Prepare [(.t 51), (.c (.string ⟨#[98, 97, 115, 101]⟩)), (.c (.string ⟨#[110, 111, 110, 101]⟩)), (.c (.int .i64 9))]⟩,
  ⟨(some 50), none, .mov (.t 52)⟩,
  ⟨(some 53), none, .ext 0 (.t 50)⟩,
  ⟨(some 54), none, .ext 1 (.t 50)⟩,
  ⟨(some 6), none, .mov (.t 54)⟩]
@[simp] def c_law19_ForestErrors_r21 : List Ir := [⟨(some 7), none, .mov (.c (.int .i64 1905))⟩]
@[simp] def c_law19_ForestErrors_r22 : List Ir := [⟨(some 56), none, .bin .eql 49 (.t 28) (.c (.int .u64 3))⟩,
  ⟨(some 55), none, .mov (.t 56)⟩]
@[simp] def c_law19_ForestErrors_r23 : List Ir := [⟨(some 58), none, .mov (.t 3)⟩,
  ⟨(some 59), none, .call f_forest_Prepare [(.t 58), (.c (.string ⟨#[98, 97, 115, 101]⟩)), (.c (.string ⟨#[110, 111, 110, 101]⟩)), (.c (.int .i64 1))]⟩,
  ⟨(some 57), none, .mov (.t 59)⟩,
  ⟨(some 60), none, .ext 0 (.t 57)⟩,
  ⟨(some 61), none, .ext 1 (.t 57)⟩,
  ⟨(some 6), none, .mov (.t 61)⟩]
@[simp] def c_law19_ForestErrors_r24 : List Ir := [⟨(some 7), none, .mov (.c (.int .i64 1902))⟩]
@[simp] def c_law19_ForestErrors_r25 : List Ir := [⟨(some 63), none, .bin .eql 49 (.t 28) (.c (.int .u64 4))⟩,
  ⟨(some 62), none, .mov (.t 63)⟩]
@[simp] def c_law19_ForestErrors_r26 : List Ir := [⟨(some 65), none, .mov (.t 4)⟩,
  ⟨(some 66), none, .call f_forest_Prepare [(.t 65), (.c (.string ⟨#[118]⟩)), (.c (.string ⟨#[119, 111, 114, 107]⟩)), (.c (.int .i64 1))]⟩,
  ⟨(some 64), none, .mov (.t 66)⟩,
  ⟨(some 67), none, .ext 0 (.t 64)⟩,
  ⟨(some 68), none, .ext 1 (.t 64)⟩,
  ⟨(some 6), none, .mov (.t 68)⟩]
@[simp] def c_law19_ForestErrors_r27 : List Ir := [⟨(some 7), none, .mov (.c (.int .i64 1904))⟩]
@[simp] def c_law19_ForestErrors_r28 : List Ir := [⟨(some 70), none, .bin .eql 49 (.t 28) (.c (.int .u64 5))⟩,
  ⟨(some 69), none, .mov (.t 70)⟩]
@[simp] def c_law19_ForestErrors_r29 : List Ir := [⟨(some 72), none, .mov (.t 4)⟩,
  ⟨(some 73), none, .call f_forest_Prepare [(.t 72), (.c (.string ⟨#[118]⟩)), (.c (.string ⟨#[98, 97, 115, 101]⟩)), (.c (.int .i64 1))]⟩,
  ⟨(some 71), none, .mov (.t 73)⟩,
  ⟨(some 74), none, .ext 0 (.t 71)⟩,
  ⟨(some 75), none, .ext 1 (.t 71)⟩,
  ⟨(some 6), none, .mov (.t 75)⟩]
@[simp] def c_law19_ForestErrors_r30 : List Ir := [⟨(some 7), none, .mov (.c (.int .i64 1910))⟩]
@[simp] def c_law19_ForestErrors_r31 : List Ir := [⟨(some 77), none, .bin .eql 49 (.t 28) (.c (.int .u64 6))⟩,
  ⟨(some 76), none, .mov (.t 77)⟩]
@[simp] def c_law19_ForestErrors_r32 : List Ir := [⟨(some 79), none, .mov (.t 3)⟩,
  ⟨(some 80), none, .call f_forest_Commit [(.t 79), (.c (.string ⟨#[110, 111, 110, 101]⟩)), (.c (.string ⟨#[66]⟩))]⟩,
  ⟨(some 78), none, .mov (.t 80)⟩,
  ⟨(some 81), none, .ext 0 (.t 78)⟩,
  ⟨(some 82), none, .ext 1 (.t 78)⟩,
  ⟨(some 6), none, .mov (.t 82)⟩]
@[simp] def c_law19_ForestErrors_r33 : List Ir := [⟨(some 7), none, .mov (.c (.int .i64 1901))⟩]
@[simp] def c_law19_ForestErrors_r34 : List Ir := [⟨(some 84), none, .bin .eql 49 (.t 28) (.c (.int .u64 7))⟩,
  ⟨(some 83), none, .mov (.t 84)⟩]
@[simp] def c_law19_ForestErrors_r35 : List Ir := [⟨(some 86), none, .mov (.t 3)⟩,
  ⟨(some 87), none, .call f_forest_Commit [(.t 86), (.c (.string ⟨#[110, 111, 110, 101]⟩)), (.c (.string ⟨#[98, 97, 115, 101]⟩))]⟩,
  ⟨(some 85), none, .mov (.t 87)⟩,
  ⟨(some 88), none, .ext 0 (.t 85)⟩,
  ⟨(some 89), none, .ext 1 (.t 85)⟩,
  ⟨(some 6), none, .mov (.t 89)⟩]
@[simp] def c_law19_ForestErrors_r36 : List Ir := [⟨(some 7), none, .mov (.c (.int .i64 1903))⟩]
@[simp] def c_law19_ForestErrors_r37 : List Ir := [⟨(some 91), none, .bin .eql 49 (.t 28) (.c (.int .u64 8))⟩,
  ⟨(some 90), none, .mov (.t 91)⟩]
@[simp] def c_law19_ForestErrors_r38 : List Ir := [⟨(some 93), none, .mov (.t 3)⟩,
  ⟨(some 94), none, .call f_forest_Commit [(.t 93), (.c (.string ⟨#[98, 97, 115, 101]⟩)), (.c (.string ⟨#[98, 97, 115, 101]⟩))]⟩,
  ⟨(some 92), none, .mov (.t 94)⟩,
  ⟨(some 95), none, .ext 0 (.t 92)⟩,
  ⟨(some 96), none, .ext 1 (.t 92)⟩,
  ⟨(some 6), none, .mov (.t 96)⟩]
@[simp] def c_law19_ForestErrors_r39 : List Ir := [⟨(some 7), none, .mov (.c (.int .i64 1905))⟩]
@[simp] def c_law19_ForestErrors_r40 : List Ir := [⟨(some 30), none, .mov (.t 3)⟩,
  ⟨(some 31), none, .call f_forest_Commit [(.t 30), (.c (.string ⟨#[119, 111, 114, 107]⟩)), (.c (.string ⟨#[119, 111, 114, 107]⟩))]⟩,
  ⟨(some 29), none, .mov (.t 31)⟩,
  ⟨(some 32), none, .ext 0 (.t 29)⟩,
  ⟨(some 33), none, .ext 1 (.t 29)⟩,
  ⟨(some 6), none, .mov (.t 33)⟩]
@[simp] def c_law19_ForestErrors_r41 : List Ir := [⟨(some 7), none, .mov (.c (.int .i64 1902))⟩]
@[simp] def c_law19_ForestErrors_r42 : List Ir := [⟨(some 97), none, .mov (.t 6)⟩,
  ⟨(some 98), none, .call f_law0_Num [(.t 97)]⟩,
  ⟨(some 99), none, .mov (.t 7)⟩,
  ⟨(some 100), none, .bin .eql 3 (.t 98) (.t 99)⟩,
  ⟨(some 2), none, .mov (.t 100)⟩]
@[simp] def c_law19_ForestErrors : IFn := ⟨(.seq (.reg c_law19_ForestErrors_r0) (.seq (.seq (.reg c_law19_ForestErrors_r1) (.cond (.t 9) (.seq (.reg c_law19_ForestErrors_r2) .ret) .skip)) (.seq (.reg c_law19_ForestErrors_r3) (.seq (.reg c_law19_ForestErrors_r4) (.seq (.seq (.reg c_law19_ForestErrors_r5) (.block 0 (.loop c_law19_ForestErrors_l9))) (.seq (.reg c_law19_ForestErrors_r10) (.seq (.reg c_law19_ForestErrors_r11) (.seq (.seq (.reg c_law19_ForestErrors_r12) (.block 2 (.seq (.reg c_law19_ForestErrors_r13) (.cond (.t 34) (.seq (.reg c_law19_ForestErrors_r14) (.reg c_law19_ForestErrors_r15)) (.seq (.reg c_law19_ForestErrors_r16) (.cond (.t 41) (.seq (.reg c_law19_ForestErrors_r17) (.reg c_law19_ForestErrors_r18)) (.seq (.reg c_law19_ForestErrors_r19) (.cond (.t 48) (.seq (.reg c_law19_ForestErrors_r20) (.reg c_law19_ForestErrors_r21)) (.seq (.reg c_law19_ForestErrors_r22) (.cond (.t 55) (.seq (.reg c_law19_ForestErrors_r23) (.reg c_law19_ForestErrors_r24)) (.seq (.reg c_law19_ForestErrors_r25) (.cond (.t 62) (.seq (.reg c_law19_ForestErrors_r26) (.reg c_law19_ForestErrors_r27)) (.seq (.reg c_law19_ForestErrors_r28) (.cond (.t 69) (.seq (.reg c_law19_ForestErrors_r29) (.reg c_law19_ForestErrors_r30)) (.seq (.reg c_law19_ForestErrors_r31) (.cond (.t 76) (.seq (.reg c_law19_ForestErrors_r32) (.reg c_law19_ForestErrors_r33)) (.seq (.reg c_law19_ForestErrors_r34) (.cond (.t 83) (.seq (.reg c_law19_ForestErrors_r35) (.reg c_law19_ForestErrors_r36)) (.seq (.reg c_law19_ForestErrors_r37) (.cond (.t 90) (.seq (.reg c_law19_ForestErrors_r38) (.reg c_law19_ForestErrors_r39)) (.seq (.reg c_law19_ForestErrors_r40) (.reg c_law19_ForestErrors_r41)))))))))))))))))))))) (.seq (.reg c_law19_ForestErrors_r42) .ret))))))))), 101, [.tmp 2]⟩

theorem fc_law19_ForestErrors : fnAt Try.prog f_law19_ForestErrors = some c_law19_ForestErrors := by kernel_rfl
@[simp] def c_law19_ForestFaults_r0 : List Ir := [⟨(some 2), none, .mov (.c (.bool false))⟩]
@[simp] def c_law19_ForestFaults_r1 : List Ir := [⟨(some 6), none, .call f_law19_awake []⟩,
  ⟨(some 7), none, .un .not (.t 6)⟩]
@[simp] def c_law19_ForestFaults_r2 : List Ir := [⟨(some 2), none, .mov (.c (.bool false))⟩]
@[simp] def c_law19_ForestFaults_r3 : List Ir := [⟨(some 8), none, .call f_law19_given []⟩,
  ⟨(some 3), none, .mov (.t 8)⟩]
@[simp] def c_law19_ForestFaults_r4 : List Ir := [⟨(some 4), none, .mov (.c (.int .i64 0))⟩]
@[simp] def c_law19_ForestFaults_r5 : List Ir := [⟨(some 5), none, .mov (.c (.int .i64 0))⟩]
@[simp] def c_law19_ForestFaults_r6 : List Ir := [⟨(some 9), none, .mov (.t 0)⟩,
  ⟨(some 10), none, .ii .u64 (.t 9)⟩,
  ⟨(some 11), none, .bin .rem 49 (.t 10) (.c (.int .u64 11))⟩]
@[simp] def c_law19_ForestFaults_r7 : List Ir := [⟨(some 18), none, .bin .eql 49 (.t 11) (.c (.int .u64 0))⟩,
  ⟨(some 17), none, .mov (.t 18)⟩]
@[simp] def c_law19_ForestFaults_r8 : List Ir := [⟨(some 20), none, .mov (.t 3)⟩,
  ⟨(some 21), none, .call f_forest_Remove [(.t 20), (.c (.string ⟨#[110, 111, 110, 101]⟩))]⟩,
  ⟨(some 19), none, .mov (.t 21)⟩,
  ⟨(some 22), none, .ext 0 (.t 19)⟩,
  ⟨(some 23), none, .ext 1 (.t 19)⟩,
  ⟨(some 4), none, .mov (.t 23)⟩]
@[simp] def c_law19_ForestFaults_r9 : List Ir := [⟨(some 5), none, .mov (.c (.int .i64 1903))⟩]
@[simp] def c_law19_ForestFaults_r10 : List Ir := [⟨(some 25), none, .bin .eql 49 (.t 11) (.c (.int .u64 1))⟩,
  ⟨(some 24), none, .mov (.t 25)⟩]
@[simp] def c_law19_ForestFaults_r11 : List Ir := [⟨(some 27), none, .mov (.t 3)⟩,
  ⟨(some 28), none, .call f_forest_Remove [(.t 27), (.c (.string ⟨#[98, 97, 115, 101]⟩))]⟩,
  ⟨(some 26), none, .mov (.t 28)⟩,
  ⟨(some 29), none, .ext 0 (.t 26)⟩,
  ⟨(some 30), none, .ext 1 (.t 26)⟩,
  ⟨(some 4), none, .mov (.t 30)⟩]
@[simp] def c_law19_ForestFaults_r12 : List Ir := [⟨(some 5), none, .mov (.c (.int .i64 1906))⟩]
@[simp] def c_law19_ForestFaults_r13 : List Ir := [⟨(some 32), none, .bin .eql 49 (.t 11) (.c (.int .u64 2))⟩,
  ⟨(some 31), none, .mov (.t 32)⟩]
@[simp] def c_law19_ForestFaults_r14 : List Ir := [⟨(some 34), none, .mov (.t 3)⟩,
  ⟨(some 35), none, .call f_forest_Label [(.t 34), (.c (.string ⟨#[110, 111, 110, 101]⟩)), (.c (.string ⟨#[102, 111, 117, 114]⟩))]⟩,
  ⟨(some 33), none, .mov (.t 35)⟩,
  ⟨(some 36), none, .ext 0 (.t 33)⟩,
  ⟨(some 37), none, .ext 1 (.t 33)⟩,
  ⟨(some 4), none, .mov (.t 37)⟩]
@[simp] def c_law19_ForestFaults_r15 : List Ir := [⟨(some 5), none, .mov (.c (.int .i64 1903))⟩]
@[simp] def c_law19_ForestFaults_r16 : List Ir := [⟨(some 39), none, .bin .eql 49 (.t 11) (.c (.int .u64 3))⟩,
  ⟨(some 38), none, .mov (.t 39)⟩]
@[simp] def c_law19_ForestFaults_r17 : List Ir := [⟨(some 41), none, .mov (.t 3)⟩,
  ⟨(some 42), none, .call f_forest_Label [(.t 41), (.c (.string ⟨#[98, 97, 115, 101]⟩)), (.c (.string ⟨#[102, 111, 117, 114]⟩))]⟩,
  ⟨(some 40), none, .mov (.t 42)⟩,
  ⟨(some 43), none, .ext 0 (.t 40)⟩,
  ⟨(some 44), none, .ext 1 (.t 40)⟩,
  ⟨(some 4), none, .mov (.t 44)⟩]
@[simp] def c_law19_ForestFaults_r18 : List Ir := [⟨(some 5), none, .mov (.c (.int .i64 1911))⟩]
@[simp] def c_law19_ForestFaults_r19 : List Ir := [⟨(some 46), none, .bin .eql 49 (.t 11) (.c (.int .u64 4))⟩,
  ⟨(some 45), none, .mov (.t 46)⟩]
@[simp] def c_law19_ForestFaults_r20 : List Ir := [⟨(some 48), none, .mov (.t 3)⟩,
  ⟨(some 49), none, .call f_forest_Write [(.t 48), (.c (.string ⟨#[110, 111, 110, 101]⟩)), (.c (.string ⟨#[]⟩)), (.c (.string ⟨#[115, 101, 118, 101, 110, 55, 55]⟩))]⟩,
  ⟨(some 47), none, .mov (.t 49)⟩,
  ⟨(some 50), none, .ext 0 (.t 47)⟩,
  ⟨(some 51), none, .ext 1 (.t 47)⟩,
  ⟨(some 4), none, .mov (.t 51)⟩]
@[simp] def c_law19_ForestFaults_r21 : List Ir := [⟨(some 5), none, .mov (.c (.int .i64 1903))⟩]
@[simp] def c_law19_ForestFaults_r22 : List Ir := [⟨(some 53), none, .bin .eql 49 (.t 11) (.c (.int .u64 5))⟩,
  ⟨(some 52), none, .mov (.t 53)⟩]
@[simp] def c_law19_ForestFaults_r23 : List Ir := [⟨(some 55), none, .mov (.t 3)⟩,
  ⟨(some 56), none, .call f_forest_Write [(.t 55), (.c (.string ⟨#[98, 97, 115, 101]⟩)), (.c (.string ⟨#[]⟩)), (.c (.string ⟨#[115, 101, 118, 101, 110, 55, 55]⟩))]⟩,
  ⟨(some 54), none, .mov (.t 56)⟩,
  ⟨(some 57), none, .ext 0 (.t 54)⟩,
  ⟨(some 58), none, .ext 1 (.t 54)⟩,
  ⟨(some 4), none, .mov (.t 58)⟩]
@[simp] def c_law19_ForestFaults_r24 : List Ir := [⟨(some 5), none, .mov (.c (.int .i64 1905))⟩]
@[simp] def c_law19_ForestFaults_r25 : List Ir := [⟨(some 60), none, .bin .eql 49 (.t 11) (.c (.int .u64 6))⟩,
  ⟨(some 59), none, .mov (.t 60)⟩]
@[simp] def c_law19_ForestFaults_r26 : List Ir := [⟨(some 62), none, .mov (.t 3)⟩,
  ⟨(some 63), none, .call f_forest_Write [(.t 62), (.c (.string ⟨#[119, 111, 114, 107]⟩)), (.c (.string ⟨#[]⟩)), (.c (.string ⟨#[115, 101, 118, 101, 110, 55, 55]⟩))]⟩,
  ⟨(some 61), none, .mov (.t 63)⟩,
  ⟨(some 64), none, .ext 0 (.t 61)⟩,
  ⟨(some 65), none, .ext 1 (.t 61)⟩,
  ⟨(some 4), none, .mov (.t 65)⟩]
@[simp] def c_law19_ForestFaults_r27 : List Ir := [⟨(some 5), none, .mov (.c (.int .i64 1907))⟩]
@[simp] def c_law19_ForestFaults_r28 : List Ir := [⟨(some 67), none, .bin .eql 49 (.t 11) (.c (.int .u64 7))⟩,
  ⟨(some 66), none, .mov (.t 67)⟩]
@[simp] def c_law19_ForestFaults_r29 : List Ir := [⟨(some 69), none, .mov (.t 3)⟩,
  ⟨(some 70), none, .call f_forest_Write [(.t 69), (.c (.string ⟨#[119, 111, 114, 107]⟩)), (.c (.string ⟨#[99]⟩)), (.c (.string ⟨#[115, 101, 118, 101, 110, 55, 55]⟩))]⟩,
  ⟨(some 68), none, .mov (.t 70)⟩,
  ⟨(some 71), none, .ext 0 (.t 68)⟩,
  ⟨(some 72), none, .ext 1 (.t 68)⟩,
  ⟨(some 4), none, .mov (.t 72)⟩]
@[simp] def c_law19_ForestFaults_r30 : List Ir := [⟨(some 5), none, .mov (.c (.int .i64 1909))⟩]
@[simp] def c_law19_ForestFaults_r31 : List Ir := [⟨(some 74), none, .bin .eql 49 (.t 11) (.c (.int .u64 8))⟩,
  ⟨(some 73), none, .mov (.t 74)⟩]
@[simp] def c_law19_ForestFaults_r32 : List Ir := [⟨(some 76), none, .mov (.t 3)⟩,
  ⟨(some 77), none, .call f_forest_Delete [(.t 76), (.c (.string ⟨#[98, 97, 115, 101]⟩)), (.c (.string ⟨#[]⟩))]⟩,
  ⟨(some 75), none, .mov (.t 77)⟩,
  ⟨(some 78), none, .ext 0 (.t 75)⟩,
  ⟨(some 79), none, .ext 1 (.t 75)⟩,
  ⟨(some 4), none, .mov (.t 79)⟩]
@[simp] def c_law19_ForestFaults_r33 : List Ir := [⟨(some 5), none, .mov (.c (.int .i64 1905))⟩]
@[simp] def c_law19_ForestFaults_r34 : List Ir := [⟨(some 81), none, .bin .eql 49 (.t 11) (.c (.int .u64 9))⟩,
  ⟨(some 80), none, .mov (.t 81)⟩]
@[simp] def c_law19_ForestFaults_r35 : List Ir := [⟨(some 83), none, .mov (.t 3)⟩,
  ⟨(some 84), none, .call f_forest_Delete [(.t 83), (.c (.string ⟨#[119, 111, 114, 107]⟩)), (.c (.string ⟨#[]⟩))]⟩,
  ⟨(some 82), none, .mov (.t 84)⟩,
  ⟨(some 85), none, .ext 0 (.t 82)⟩,
  ⟨(some 86), none, .ext 1 (.t 82)⟩,
  ⟨(some 4), none, .mov (.t 86)⟩]
@[simp] def c_law19_ForestFaults_r36 : List Ir := [⟨(some 5), none, .mov (.c (.int .i64 1907))⟩]
@[simp] def c_law19_ForestFaults_r37 : List Ir := [⟨(some 13), none, .mov (.t 3)⟩,
  ⟨(some 14), none, .call f_forest_Delete [(.t 13), (.c (.string ⟨#[119, 111, 114, 107]⟩)), (.c (.string ⟨#[99]⟩))]⟩,
  ⟨(some 12), none, .mov (.t 14)⟩,
  ⟨(some 15), none, .ext 0 (.t 12)⟩,
  ⟨(some 16), none, .ext 1 (.t 12)⟩,
  ⟨(some 4), none, .mov (.t 16)⟩]
@[simp] def c_law19_ForestFaults_r38 : List Ir := [⟨(some 5), none, .mov (.c (.int .i64 1908))⟩]
@[simp] def c_law19_ForestFaults_r39 : List Ir := [⟨(some 87), none, .mov (.t 4)⟩,
  ⟨(some 88), none, .call f_law0_Num [(.t 87)]⟩,
  ⟨(some 89), none, .mov (.t 5)⟩,
  ⟨(some 90), none, .bin .eql 3 (.t 88) (.t 89)⟩,
  ⟨(some 2), none, .mov (.t 90)⟩]
@[simp] def c_law19_ForestFaults : IFn := ⟨(.seq (.reg c_law19_ForestFaults_r0) (.seq (.seq (.reg c_law19_ForestFaults_r1) (.cond (.t 7) (.seq (.reg c_law19_ForestFaults_r2) .ret) .skip)) (.seq (.reg c_law19_ForestFaults_r3) (.seq (.reg c_law19_ForestFaults_r4) (.seq (.reg c_law19_ForestFaults_r5) (.seq (.seq (.reg c_law19_ForestFaults_r6) (.block 0 (.seq (.reg c_law19_ForestFaults_r7) (.cond (.t 17) (.seq (.reg c_law19_ForestFaults_r8) (.reg c_law19_ForestFaults_r9)) (.seq (.reg c_law19_ForestFaults_r10) (.cond (.t 24) (.seq (.reg c_law19_ForestFaults_r11) (.reg c_law19_ForestFaults_r12)) (.seq (.reg c_law19_ForestFaults_r13) (.cond (.t 31) (.seq (.reg c_law19_ForestFaults_r14) (.reg c_law19_ForestFaults_r15)) (.seq (.reg c_law19_ForestFaults_r16) (.cond (.t 38) (.seq (.reg c_law19_ForestFaults_r17) (.reg c_law19_ForestFaults_r18)) (.seq (.reg c_law19_ForestFaults_r19) (.cond (.t 45) (.seq (.reg c_law19_ForestFaults_r20) (.reg c_law19_ForestFaults_r21)) (.seq (.reg c_law19_ForestFaults_r22) (.cond (.t 52) (.seq (.reg c_law19_ForestFaults_r23) (.reg c_law19_ForestFaults_r24)) (.seq (.reg c_law19_ForestFaults_r25) (.cond (.t 59) (.seq (.reg c_law19_ForestFaults_r26) (.reg c_law19_ForestFaults_r27)) (.seq (.reg c_law19_ForestFaults_r28) (.cond (.t 66) (.seq (.reg c_law19_ForestFaults_r29) (.reg c_law19_ForestFaults_r30)) (.seq (.reg c_law19_ForestFaults_r31) (.cond (.t 73) (.seq (.reg c_law19_ForestFaults_r32) (.reg c_law19_ForestFaults_r33)) (.seq (.reg c_law19_ForestFaults_r34) (.cond (.t 80) (.seq (.reg c_law19_ForestFaults_r35) (.reg c_law19_ForestFaults_r36)) (.seq (.reg c_law19_ForestFaults_r37) (.reg c_law19_ForestFaults_r38)))))))))))))))))))))))) (.seq (.reg c_law19_ForestFaults_r39) .ret))))))), 91, [.tmp 2]⟩

theorem fc_law19_ForestFaults : fnAt Try.prog f_law19_ForestFaults = some c_law19_ForestFaults := by kernel_rfl
end Go.AM
