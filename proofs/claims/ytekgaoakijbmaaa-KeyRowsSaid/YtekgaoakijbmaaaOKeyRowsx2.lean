/- Contracts of the functions that the law cryostatlaw16.KeyRows reaches (printed for this claim by a tool of the kit, and pruned): each Go function's call comes to its Lean function's answer; those of the law package for the answer true alone. -/
import Derived.Test.YtekgaoakijbmaaaPKeyRowsx0
import Derived.Test.YtekgaoakijbmaaaPKeyRowsx1
namespace Go.Proofs.Ytekgaoakijbmaaa.PKeyRows
open Go.RowKit Go.Proofs.YtekgaoakijbmaaaW.PrintWords Go.Proofs.YtekgaoakijbmaaaW.PrintLast Go.Proofs.YtekgaoakijbmaaaW.PrintMore
attribute [local go_sem] max2_int min2_int max_two min_two max_three min_three max_four min_four   -- for this text's walks alone
set_option linter.unusedVariables false
set_option linter.unusedSimpArgs false

/-! ### cryostatlaw16_awake: function 48 -/
def cryostatlaw16_awake.f (k : Nat)  : Option (Bool) := (key_Snap.f k (⟨#[97, 98, 49]⟩ : ByteArray)).bind fun bt123 => ((key_File.f k 7 (⟨#[120]⟩ : ByteArray)).bind fun bt125 => ((key_Inode.f 255).bind fun bt127 => ((key_Snap.f k (⟨#[]⟩ : ByteArray)).bind fun bt129 => ((key_File.f k 0 (⟨#[120]⟩ : ByteArray)).bind fun bt131 => ((key_Inode.f 256).bind fun bt133 => ((key_Name.f k bt123.1).bind fun bt135 => ((key_Path.f k bt125.1).bind fun bt137 => ((key_Number.f bt127.1).bind fun bt140 => ((key_Name.f k (⟨#[115]⟩ : ByteArray)).bind fun bt142 => (if bt123.1.toList = ([115, 97, 98, 49] : List UInt8) then ((cryostatlaw0_Num.f bt123.2).bind fun t144 => (if t144 = 0 then (if bt125.1.toList = ([102, 7, 120] : List UInt8) then ((cryostatlaw0_Num.f bt125.2).bind fun t145 => (if t145 = 0 then (if bt127.1.toList = ([105, 255] : List UInt8) then ((cryostatlaw0_Num.f bt127.2).bind fun t146 => (if t146 = 0 then ((cryostatlaw0_Num.f bt129.2).bind fun t147 => (if t147 = 1600 then ((cryostatlaw0_Num.f bt131.2).bind fun t148 => (if t148 = 1600 then ((cryostatlaw0_Num.f bt133.2).bind fun t149 => (if t149 = 1600 then (if bt135.1.toList = ([97, 98, 49] : List UInt8) then (if bt135.2 = true then (if bt137.1 = 7 then (if bt137.2.1.toList = ([120] : List UInt8) then (if bt137.2.2 = true then (if bt140.1 = 255 then (if bt140.2 = true then (some (!bt142.2)) else (some false)) else (some false)) else (some false)) else (some false)) else (some false)) else (some false)) else (some false)) else (some false))) else (some false))) else (some false))) else (some false))) else (some false)) else (some false))) else (some false)) else (some false))) else (some false)))))))))))
theorem cryostatlaw16_awake.mono : ∀ k, LeO (cryostatlaw16_awake.f k ) (cryostatlaw16_awake.f (k + 1) ) := by
  intro  k
  unfold cryostatlaw16_awake.f
  repeat' first
      | (with_reducible exact key_File.mono _ _ _)
      | (with_reducible exact key_Name.mono _ _)
      | (with_reducible exact key_Path.mono _ _)
      | (with_reducible exact key_Snap.mono _ _)
      | (with_reducible exact LeO.refl _)
      | (with_reducible exact LeO.none _)
      | (with_reducible refine LeO.ite ?_ ?_)
      | (with_reducible refine LeO.bind ?_ (fun _ => ?_))
      | exact key_File.mono _ _ _
      | exact key_Name.mono _ _
      | exact key_Path.mono _ _
      | exact key_Snap.mono _ _
      | exact LeO.none _
      | refine LeO.ite ?_ ?_
      | refine LeO.bind ?_ (fun _ => ?_)
set_option maxHeartbeats 8000000 in
set_option maxRecDepth 100000 in
theorem cryostatlaw16_awake.calls (k : Nat)  (r : Bool) (w : World) (hr : Aside0 (r = true)) (h : cryostatlaw16_awake.f k  = some r) :
    Calls Try.prog 48 #[] w fun e w' => e = .returned (.bool r) ∧ Below w.heap.size w w' := by
  have HB := Aside0.mk (Below.refl w.heap.size w)
  have H : ((key_Snap.f k (⟨#[97, 98, 49]⟩ : ByteArray)).bind fun bt123 => ((key_File.f k 7 (⟨#[120]⟩ : ByteArray)).bind fun bt125 => ((key_Inode.f 255).bind fun bt127 => ((key_Snap.f k (⟨#[]⟩ : ByteArray)).bind fun bt129 => ((key_File.f k 0 (⟨#[120]⟩ : ByteArray)).bind fun bt131 => ((key_Inode.f 256).bind fun bt133 => ((key_Name.f k bt123.1).bind fun bt135 => ((key_Path.f k bt125.1).bind fun bt137 => ((key_Number.f bt127.1).bind fun bt140 => ((key_Name.f k (⟨#[115]⟩ : ByteArray)).bind fun bt142 => (if bt123.1.toList = ([115, 97, 98, 49] : List UInt8) then ((cryostatlaw0_Num.f bt123.2).bind fun t144 => (if t144 = 0 then (if bt125.1.toList = ([102, 7, 120] : List UInt8) then ((cryostatlaw0_Num.f bt125.2).bind fun t145 => (if t145 = 0 then (if bt127.1.toList = ([105, 255] : List UInt8) then ((cryostatlaw0_Num.f bt127.2).bind fun t146 => (if t146 = 0 then ((cryostatlaw0_Num.f bt129.2).bind fun t147 => (if t147 = 1600 then ((cryostatlaw0_Num.f bt131.2).bind fun t148 => (if t148 = 1600 then ((cryostatlaw0_Num.f bt133.2).bind fun t149 => (if t149 = 1600 then (if bt135.1.toList = ([97, 98, 49] : List UInt8) then (if bt135.2 = true then (if bt137.1 = 7 then (if bt137.2.1.toList = ([120] : List UInt8) then (if bt137.2.2 = true then (if bt140.1 = 255 then (if bt140.2 = true then (some (!bt142.2)) else (some false)) else (some false)) else (some false)) else (some false)) else (some false)) else (some false)) else (some false)) else (some false))) else (some false))) else (some false))) else (some false))) else (some false)) else (some false))) else (some false)) else (some false))) else (some false)))))))))))) = some r := h
  clear h
  replace H := Option.bind_eq_some_iff.mp H
  obtain ⟨⟨t123, t124⟩, A10, H⟩ := H
  replace H : ((key_File.f k 7 (⟨#[120]⟩ : ByteArray)).bind fun bt125 => ((key_Inode.f 255).bind fun bt127 => ((key_Snap.f k (⟨#[]⟩ : ByteArray)).bind fun bt129 => ((key_File.f k 0 (⟨#[120]⟩ : ByteArray)).bind fun bt131 => ((key_Inode.f 256).bind fun bt133 => ((key_Name.f k t123).bind fun bt135 => ((key_Path.f k bt125.1).bind fun bt137 => ((key_Number.f bt127.1).bind fun bt140 => ((key_Name.f k (⟨#[115]⟩ : ByteArray)).bind fun bt142 => (if t123.toList = ([115, 97, 98, 49] : List UInt8) then ((cryostatlaw0_Num.f t124).bind fun t144 => (if t144 = 0 then (if bt125.1.toList = ([102, 7, 120] : List UInt8) then ((cryostatlaw0_Num.f bt125.2).bind fun t145 => (if t145 = 0 then (if bt127.1.toList = ([105, 255] : List UInt8) then ((cryostatlaw0_Num.f bt127.2).bind fun t146 => (if t146 = 0 then ((cryostatlaw0_Num.f bt129.2).bind fun t147 => (if t147 = 1600 then ((cryostatlaw0_Num.f bt131.2).bind fun t148 => (if t148 = 1600 then ((cryostatlaw0_Num.f bt133.2).bind fun t149 => (if t149 = 1600 then (if bt135.1.toList = ([97, 98, 49] : List UInt8) then (if bt135.2 = true then (if bt137.1 = 7 then (if bt137.2.1.toList = ([120] : List UInt8) then (if bt137.2.2 = true then (if bt140.1 = 255 then (if bt140.2 = true then (some (!bt142.2)) else (some false)) else (some false)) else (some false)) else (some false)) else (some false)) else (some false)) else (some false)) else (some false))) else (some false))) else (some false))) else (some false))) else (some false)) else (some false))) else (some false)) else (some false))) else (some false))))))))))) = some r := H
  have A1 := Aside0.mk A10
  clear A10
  replace H := Option.bind_eq_some_iff.mp H
  obtain ⟨⟨t125, t126⟩, A20, H⟩ := H
  replace H : ((key_Inode.f 255).bind fun bt127 => ((key_Snap.f k (⟨#[]⟩ : ByteArray)).bind fun bt129 => ((key_File.f k 0 (⟨#[120]⟩ : ByteArray)).bind fun bt131 => ((key_Inode.f 256).bind fun bt133 => ((key_Name.f k t123).bind fun bt135 => ((key_Path.f k t125).bind fun bt137 => ((key_Number.f bt127.1).bind fun bt140 => ((key_Name.f k (⟨#[115]⟩ : ByteArray)).bind fun bt142 => (if t123.toList = ([115, 97, 98, 49] : List UInt8) then ((cryostatlaw0_Num.f t124).bind fun t144 => (if t144 = 0 then (if t125.toList = ([102, 7, 120] : List UInt8) then ((cryostatlaw0_Num.f t126).bind fun t145 => (if t145 = 0 then (if bt127.1.toList = ([105, 255] : List UInt8) then ((cryostatlaw0_Num.f bt127.2).bind fun t146 => (if t146 = 0 then ((cryostatlaw0_Num.f bt129.2).bind fun t147 => (if t147 = 1600 then ((cryostatlaw0_Num.f bt131.2).bind fun t148 => (if t148 = 1600 then ((cryostatlaw0_Num.f bt133.2).bind fun t149 => (if t149 = 1600 then (if bt135.1.toList = ([97, 98, 49] : List UInt8) then (if bt135.2 = true then (if bt137.1 = 7 then (if bt137.2.1.toList = ([120] : List UInt8) then (if bt137.2.2 = true then (if bt140.1 = 255 then (if bt140.2 = true then (some (!bt142.2)) else (some false)) else (some false)) else (some false)) else (some false)) else (some false)) else (some false)) else (some false)) else (some false))) else (some false))) else (some false))) else (some false))) else (some false)) else (some false))) else (some false)) else (some false))) else (some false)))))))))) = some r := H
  have A2 := Aside0.mk A20
  clear A20
  replace H := Option.bind_eq_some_iff.mp H
  obtain ⟨⟨t127, t128⟩, A30, H⟩ := H
  replace H : ((key_Snap.f k (⟨#[]⟩ : ByteArray)).bind fun bt129 => ((key_File.f k 0 (⟨#[120]⟩ : ByteArray)).bind fun bt131 => ((key_Inode.f 256).bind fun bt133 => ((key_Name.f k t123).bind fun bt135 => ((key_Path.f k t125).bind fun bt137 => ((key_Number.f t127).bind fun bt140 => ((key_Name.f k (⟨#[115]⟩ : ByteArray)).bind fun bt142 => (if t123.toList = ([115, 97, 98, 49] : List UInt8) then ((cryostatlaw0_Num.f t124).bind fun t144 => (if t144 = 0 then (if t125.toList = ([102, 7, 120] : List UInt8) then ((cryostatlaw0_Num.f t126).bind fun t145 => (if t145 = 0 then (if t127.toList = ([105, 255] : List UInt8) then ((cryostatlaw0_Num.f t128).bind fun t146 => (if t146 = 0 then ((cryostatlaw0_Num.f bt129.2).bind fun t147 => (if t147 = 1600 then ((cryostatlaw0_Num.f bt131.2).bind fun t148 => (if t148 = 1600 then ((cryostatlaw0_Num.f bt133.2).bind fun t149 => (if t149 = 1600 then (if bt135.1.toList = ([97, 98, 49] : List UInt8) then (if bt135.2 = true then (if bt137.1 = 7 then (if bt137.2.1.toList = ([120] : List UInt8) then (if bt137.2.2 = true then (if bt140.1 = 255 then (if bt140.2 = true then (some (!bt142.2)) else (some false)) else (some false)) else (some false)) else (some false)) else (some false)) else (some false)) else (some false)) else (some false))) else (some false))) else (some false))) else (some false))) else (some false)) else (some false))) else (some false)) else (some false))) else (some false))))))))) = some r := H
  have A3 := Aside0.mk A30
  clear A30
  replace H := Option.bind_eq_some_iff.mp H
  obtain ⟨⟨t129, t130⟩, A40, H⟩ := H
  replace H : ((key_File.f k 0 (⟨#[120]⟩ : ByteArray)).bind fun bt131 => ((key_Inode.f 256).bind fun bt133 => ((key_Name.f k t123).bind fun bt135 => ((key_Path.f k t125).bind fun bt137 => ((key_Number.f t127).bind fun bt140 => ((key_Name.f k (⟨#[115]⟩ : ByteArray)).bind fun bt142 => (if t123.toList = ([115, 97, 98, 49] : List UInt8) then ((cryostatlaw0_Num.f t124).bind fun t144 => (if t144 = 0 then (if t125.toList = ([102, 7, 120] : List UInt8) then ((cryostatlaw0_Num.f t126).bind fun t145 => (if t145 = 0 then (if t127.toList = ([105, 255] : List UInt8) then ((cryostatlaw0_Num.f t128).bind fun t146 => (if t146 = 0 then ((cryostatlaw0_Num.f t130).bind fun t147 => (if t147 = 1600 then ((cryostatlaw0_Num.f bt131.2).bind fun t148 => (if t148 = 1600 then ((cryostatlaw0_Num.f bt133.2).bind fun t149 => (if t149 = 1600 then (if bt135.1.toList = ([97, 98, 49] : List UInt8) then (if bt135.2 = true then (if bt137.1 = 7 then (if bt137.2.1.toList = ([120] : List UInt8) then (if bt137.2.2 = true then (if bt140.1 = 255 then (if bt140.2 = true then (some (!bt142.2)) else (some false)) else (some false)) else (some false)) else (some false)) else (some false)) else (some false)) else (some false)) else (some false))) else (some false))) else (some false))) else (some false))) else (some false)) else (some false))) else (some false)) else (some false))) else (some false)))))))) = some r := H
  have A4 := Aside0.mk A40
  clear A40
  replace H := Option.bind_eq_some_iff.mp H
  obtain ⟨⟨t131, t132⟩, A50, H⟩ := H
  replace H : ((key_Inode.f 256).bind fun bt133 => ((key_Name.f k t123).bind fun bt135 => ((key_Path.f k t125).bind fun bt137 => ((key_Number.f t127).bind fun bt140 => ((key_Name.f k (⟨#[115]⟩ : ByteArray)).bind fun bt142 => (if t123.toList = ([115, 97, 98, 49] : List UInt8) then ((cryostatlaw0_Num.f t124).bind fun t144 => (if t144 = 0 then (if t125.toList = ([102, 7, 120] : List UInt8) then ((cryostatlaw0_Num.f t126).bind fun t145 => (if t145 = 0 then (if t127.toList = ([105, 255] : List UInt8) then ((cryostatlaw0_Num.f t128).bind fun t146 => (if t146 = 0 then ((cryostatlaw0_Num.f t130).bind fun t147 => (if t147 = 1600 then ((cryostatlaw0_Num.f t132).bind fun t148 => (if t148 = 1600 then ((cryostatlaw0_Num.f bt133.2).bind fun t149 => (if t149 = 1600 then (if bt135.1.toList = ([97, 98, 49] : List UInt8) then (if bt135.2 = true then (if bt137.1 = 7 then (if bt137.2.1.toList = ([120] : List UInt8) then (if bt137.2.2 = true then (if bt140.1 = 255 then (if bt140.2 = true then (some (!bt142.2)) else (some false)) else (some false)) else (some false)) else (some false)) else (some false)) else (some false)) else (some false)) else (some false))) else (some false))) else (some false))) else (some false))) else (some false)) else (some false))) else (some false)) else (some false))) else (some false))))))) = some r := H
  have A5 := Aside0.mk A50
  clear A50
  replace H := Option.bind_eq_some_iff.mp H
  obtain ⟨⟨t133, t134⟩, A60, H⟩ := H
  replace H : ((key_Name.f k t123).bind fun bt135 => ((key_Path.f k t125).bind fun bt137 => ((key_Number.f t127).bind fun bt140 => ((key_Name.f k (⟨#[115]⟩ : ByteArray)).bind fun bt142 => (if t123.toList = ([115, 97, 98, 49] : List UInt8) then ((cryostatlaw0_Num.f t124).bind fun t144 => (if t144 = 0 then (if t125.toList = ([102, 7, 120] : List UInt8) then ((cryostatlaw0_Num.f t126).bind fun t145 => (if t145 = 0 then (if t127.toList = ([105, 255] : List UInt8) then ((cryostatlaw0_Num.f t128).bind fun t146 => (if t146 = 0 then ((cryostatlaw0_Num.f t130).bind fun t147 => (if t147 = 1600 then ((cryostatlaw0_Num.f t132).bind fun t148 => (if t148 = 1600 then ((cryostatlaw0_Num.f t134).bind fun t149 => (if t149 = 1600 then (if bt135.1.toList = ([97, 98, 49] : List UInt8) then (if bt135.2 = true then (if bt137.1 = 7 then (if bt137.2.1.toList = ([120] : List UInt8) then (if bt137.2.2 = true then (if bt140.1 = 255 then (if bt140.2 = true then (some (!bt142.2)) else (some false)) else (some false)) else (some false)) else (some false)) else (some false)) else (some false)) else (some false)) else (some false))) else (some false))) else (some false))) else (some false))) else (some false)) else (some false))) else (some false)) else (some false))) else (some false)))))) = some r := H
  have A6 := Aside0.mk A60
  clear A60
  replace H := Option.bind_eq_some_iff.mp H
  obtain ⟨⟨t135, t136⟩, A70, H⟩ := H
  replace H : ((key_Path.f k t125).bind fun bt137 => ((key_Number.f t127).bind fun bt140 => ((key_Name.f k (⟨#[115]⟩ : ByteArray)).bind fun bt142 => (if t123.toList = ([115, 97, 98, 49] : List UInt8) then ((cryostatlaw0_Num.f t124).bind fun t144 => (if t144 = 0 then (if t125.toList = ([102, 7, 120] : List UInt8) then ((cryostatlaw0_Num.f t126).bind fun t145 => (if t145 = 0 then (if t127.toList = ([105, 255] : List UInt8) then ((cryostatlaw0_Num.f t128).bind fun t146 => (if t146 = 0 then ((cryostatlaw0_Num.f t130).bind fun t147 => (if t147 = 1600 then ((cryostatlaw0_Num.f t132).bind fun t148 => (if t148 = 1600 then ((cryostatlaw0_Num.f t134).bind fun t149 => (if t149 = 1600 then (if t135.toList = ([97, 98, 49] : List UInt8) then (if t136 = true then (if bt137.1 = 7 then (if bt137.2.1.toList = ([120] : List UInt8) then (if bt137.2.2 = true then (if bt140.1 = 255 then (if bt140.2 = true then (some (!bt142.2)) else (some false)) else (some false)) else (some false)) else (some false)) else (some false)) else (some false)) else (some false)) else (some false))) else (some false))) else (some false))) else (some false))) else (some false)) else (some false))) else (some false)) else (some false))) else (some false))))) = some r := H
  have A7 := Aside0.mk A70
  clear A70
  replace H := Option.bind_eq_some_iff.mp H
  obtain ⟨⟨t137, t138, t139⟩, A80, H⟩ := H
  replace H : ((key_Number.f t127).bind fun bt140 => ((key_Name.f k (⟨#[115]⟩ : ByteArray)).bind fun bt142 => (if t123.toList = ([115, 97, 98, 49] : List UInt8) then ((cryostatlaw0_Num.f t124).bind fun t144 => (if t144 = 0 then (if t125.toList = ([102, 7, 120] : List UInt8) then ((cryostatlaw0_Num.f t126).bind fun t145 => (if t145 = 0 then (if t127.toList = ([105, 255] : List UInt8) then ((cryostatlaw0_Num.f t128).bind fun t146 => (if t146 = 0 then ((cryostatlaw0_Num.f t130).bind fun t147 => (if t147 = 1600 then ((cryostatlaw0_Num.f t132).bind fun t148 => (if t148 = 1600 then ((cryostatlaw0_Num.f t134).bind fun t149 => (if t149 = 1600 then (if t135.toList = ([97, 98, 49] : List UInt8) then (if t136 = true then (if t137 = 7 then (if t138.toList = ([120] : List UInt8) then (if t139 = true then (if bt140.1 = 255 then (if bt140.2 = true then (some (!bt142.2)) else (some false)) else (some false)) else (some false)) else (some false)) else (some false)) else (some false)) else (some false)) else (some false))) else (some false))) else (some false))) else (some false))) else (some false)) else (some false))) else (some false)) else (some false))) else (some false)))) = some r := H
  have A8 := Aside0.mk A80
  clear A80
  replace H := Option.bind_eq_some_iff.mp H
  obtain ⟨⟨t140, t141⟩, A90, H⟩ := H
  replace H : ((key_Name.f k (⟨#[115]⟩ : ByteArray)).bind fun bt142 => (if t123.toList = ([115, 97, 98, 49] : List UInt8) then ((cryostatlaw0_Num.f t124).bind fun t144 => (if t144 = 0 then (if t125.toList = ([102, 7, 120] : List UInt8) then ((cryostatlaw0_Num.f t126).bind fun t145 => (if t145 = 0 then (if t127.toList = ([105, 255] : List UInt8) then ((cryostatlaw0_Num.f t128).bind fun t146 => (if t146 = 0 then ((cryostatlaw0_Num.f t130).bind fun t147 => (if t147 = 1600 then ((cryostatlaw0_Num.f t132).bind fun t148 => (if t148 = 1600 then ((cryostatlaw0_Num.f t134).bind fun t149 => (if t149 = 1600 then (if t135.toList = ([97, 98, 49] : List UInt8) then (if t136 = true then (if t137 = 7 then (if t138.toList = ([120] : List UInt8) then (if t139 = true then (if t140 = 255 then (if t141 = true then (some (!bt142.2)) else (some false)) else (some false)) else (some false)) else (some false)) else (some false)) else (some false)) else (some false)) else (some false))) else (some false))) else (some false))) else (some false))) else (some false)) else (some false))) else (some false)) else (some false))) else (some false))) = some r := H
  have A9 := Aside0.mk A90
  clear A90
  replace H := Option.bind_eq_some_iff.mp H
  obtain ⟨⟨t142, t143⟩, A100, H⟩ := H
  replace H : (if t123.toList = ([115, 97, 98, 49] : List UInt8) then ((cryostatlaw0_Num.f t124).bind fun t144 => (if t144 = 0 then (if t125.toList = ([102, 7, 120] : List UInt8) then ((cryostatlaw0_Num.f t126).bind fun t145 => (if t145 = 0 then (if t127.toList = ([105, 255] : List UInt8) then ((cryostatlaw0_Num.f t128).bind fun t146 => (if t146 = 0 then ((cryostatlaw0_Num.f t130).bind fun t147 => (if t147 = 1600 then ((cryostatlaw0_Num.f t132).bind fun t148 => (if t148 = 1600 then ((cryostatlaw0_Num.f t134).bind fun t149 => (if t149 = 1600 then (if t135.toList = ([97, 98, 49] : List UInt8) then (if t136 = true then (if t137 = 7 then (if t138.toList = ([120] : List UInt8) then (if t139 = true then (if t140 = 255 then (if t141 = true then (some (!t143)) else (some false)) else (some false)) else (some false)) else (some false)) else (some false)) else (some false)) else (some false)) else (some false))) else (some false))) else (some false))) else (some false))) else (some false)) else (some false))) else (some false)) else (some false))) else (some false)) = some r := H
  have A10 := Aside0.mk A100
  clear A100
  by_cases c11 : t123.toList = ([115, 97, 98, 49] : List UInt8)
  · rw [if_pos c11] at H
    have c11b0 : (t123.toList == ([115, 97, 98, 49] : List UInt8)) = true := beq_iff_eq.mpr c11
    have c11b1 : (t123.toList != ([115, 97, 98, 49] : List UInt8)) = false := bne_eq_false_iff_eq.mpr c11
    clear c11
    replace H := Option.bind_eq_some_iff.mp H
    obtain ⟨t144, A120, H⟩ := H
    replace H : (if t144 = 0 then (if t125.toList = ([102, 7, 120] : List UInt8) then ((cryostatlaw0_Num.f t126).bind fun t145 => (if t145 = 0 then (if t127.toList = ([105, 255] : List UInt8) then ((cryostatlaw0_Num.f t128).bind fun t146 => (if t146 = 0 then ((cryostatlaw0_Num.f t130).bind fun t147 => (if t147 = 1600 then ((cryostatlaw0_Num.f t132).bind fun t148 => (if t148 = 1600 then ((cryostatlaw0_Num.f t134).bind fun t149 => (if t149 = 1600 then (if t135.toList = ([97, 98, 49] : List UInt8) then (if t136 = true then (if t137 = 7 then (if t138.toList = ([120] : List UInt8) then (if t139 = true then (if t140 = 255 then (if t141 = true then (some (!t143)) else (some false)) else (some false)) else (some false)) else (some false)) else (some false)) else (some false)) else (some false)) else (some false))) else (some false))) else (some false))) else (some false))) else (some false)) else (some false))) else (some false)) else (some false)) = some r := H
    have A12 := Aside0.mk A120
    clear A120
    by_cases c13 : t144 = 0
    · rw [if_pos c13] at H
      have c13b0 : (t144 == 0) = true := beq_iff_eq.mpr c13
      have c13b1 : (t144 != 0) = false := bne_eq_false_iff_eq.mpr c13
      clear c13
      by_cases c14 : t125.toList = ([102, 7, 120] : List UInt8)
      · rw [if_pos c14] at H
        have c14b0 : (t125.toList == ([102, 7, 120] : List UInt8)) = true := beq_iff_eq.mpr c14
        have c14b1 : (t125.toList != ([102, 7, 120] : List UInt8)) = false := bne_eq_false_iff_eq.mpr c14
        clear c14
        replace H := Option.bind_eq_some_iff.mp H
        obtain ⟨t145, A150, H⟩ := H
        replace H : (if t145 = 0 then (if t127.toList = ([105, 255] : List UInt8) then ((cryostatlaw0_Num.f t128).bind fun t146 => (if t146 = 0 then ((cryostatlaw0_Num.f t130).bind fun t147 => (if t147 = 1600 then ((cryostatlaw0_Num.f t132).bind fun t148 => (if t148 = 1600 then ((cryostatlaw0_Num.f t134).bind fun t149 => (if t149 = 1600 then (if t135.toList = ([97, 98, 49] : List UInt8) then (if t136 = true then (if t137 = 7 then (if t138.toList = ([120] : List UInt8) then (if t139 = true then (if t140 = 255 then (if t141 = true then (some (!t143)) else (some false)) else (some false)) else (some false)) else (some false)) else (some false)) else (some false)) else (some false)) else (some false))) else (some false))) else (some false))) else (some false))) else (some false)) else (some false)) = some r := H
        have A15 := Aside0.mk A150
        clear A150
        by_cases c16 : t145 = 0
        · rw [if_pos c16] at H
          have c16b0 : (t145 == 0) = true := beq_iff_eq.mpr c16
          have c16b1 : (t145 != 0) = false := bne_eq_false_iff_eq.mpr c16
          clear c16
          by_cases c17 : t127.toList = ([105, 255] : List UInt8)
          · rw [if_pos c17] at H
            have c17b0 : (t127.toList == ([105, 255] : List UInt8)) = true := beq_iff_eq.mpr c17
            have c17b1 : (t127.toList != ([105, 255] : List UInt8)) = false := bne_eq_false_iff_eq.mpr c17
            clear c17
            replace H := Option.bind_eq_some_iff.mp H
            obtain ⟨t146, A180, H⟩ := H
            replace H : (if t146 = 0 then ((cryostatlaw0_Num.f t130).bind fun t147 => (if t147 = 1600 then ((cryostatlaw0_Num.f t132).bind fun t148 => (if t148 = 1600 then ((cryostatlaw0_Num.f t134).bind fun t149 => (if t149 = 1600 then (if t135.toList = ([97, 98, 49] : List UInt8) then (if t136 = true then (if t137 = 7 then (if t138.toList = ([120] : List UInt8) then (if t139 = true then (if t140 = 255 then (if t141 = true then (some (!t143)) else (some false)) else (some false)) else (some false)) else (some false)) else (some false)) else (some false)) else (some false)) else (some false))) else (some false))) else (some false))) else (some false)) = some r := H
            have A18 := Aside0.mk A180
            clear A180
            by_cases c19 : t146 = 0
            · rw [if_pos c19] at H
              have c19b0 : (t146 == 0) = true := beq_iff_eq.mpr c19
              have c19b1 : (t146 != 0) = false := bne_eq_false_iff_eq.mpr c19
              clear c19
              replace H := Option.bind_eq_some_iff.mp H
              obtain ⟨t147, A200, H⟩ := H
              replace H : (if t147 = 1600 then ((cryostatlaw0_Num.f t132).bind fun t148 => (if t148 = 1600 then ((cryostatlaw0_Num.f t134).bind fun t149 => (if t149 = 1600 then (if t135.toList = ([97, 98, 49] : List UInt8) then (if t136 = true then (if t137 = 7 then (if t138.toList = ([120] : List UInt8) then (if t139 = true then (if t140 = 255 then (if t141 = true then (some (!t143)) else (some false)) else (some false)) else (some false)) else (some false)) else (some false)) else (some false)) else (some false)) else (some false))) else (some false))) else (some false)) = some r := H
              have A20 := Aside0.mk A200
              clear A200
              by_cases c21 : t147 = 1600
              · rw [if_pos c21] at H
                have c21b0 : (t147 == 1600) = true := beq_iff_eq.mpr c21
                have c21b1 : (t147 != 1600) = false := bne_eq_false_iff_eq.mpr c21
                clear c21
                replace H := Option.bind_eq_some_iff.mp H
                obtain ⟨t148, A220, H⟩ := H
                replace H : (if t148 = 1600 then ((cryostatlaw0_Num.f t134).bind fun t149 => (if t149 = 1600 then (if t135.toList = ([97, 98, 49] : List UInt8) then (if t136 = true then (if t137 = 7 then (if t138.toList = ([120] : List UInt8) then (if t139 = true then (if t140 = 255 then (if t141 = true then (some (!t143)) else (some false)) else (some false)) else (some false)) else (some false)) else (some false)) else (some false)) else (some false)) else (some false))) else (some false)) = some r := H
                have A22 := Aside0.mk A220
                clear A220
                by_cases c23 : t148 = 1600
                · rw [if_pos c23] at H
                  have c23b0 : (t148 == 1600) = true := beq_iff_eq.mpr c23
                  have c23b1 : (t148 != 1600) = false := bne_eq_false_iff_eq.mpr c23
                  clear c23
                  replace H := Option.bind_eq_some_iff.mp H
                  obtain ⟨t149, A240, H⟩ := H
                  replace H : (if t149 = 1600 then (if t135.toList = ([97, 98, 49] : List UInt8) then (if t136 = true then (if t137 = 7 then (if t138.toList = ([120] : List UInt8) then (if t139 = true then (if t140 = 255 then (if t141 = true then (some (!t143)) else (some false)) else (some false)) else (some false)) else (some false)) else (some false)) else (some false)) else (some false)) else (some false)) = some r := H
                  have A24 := Aside0.mk A240
                  clear A240
                  by_cases c25 : t149 = 1600
                  · rw [if_pos c25] at H
                    have c25b0 : (t149 == 1600) = true := beq_iff_eq.mpr c25
                    have c25b1 : (t149 != 1600) = false := bne_eq_false_iff_eq.mpr c25
                    clear c25
                    by_cases c26 : t135.toList = ([97, 98, 49] : List UInt8)
                    · rw [if_pos c26] at H
                      have c26b0 : (t135.toList == ([97, 98, 49] : List UInt8)) = true := beq_iff_eq.mpr c26
                      have c26b1 : (t135.toList != ([97, 98, 49] : List UInt8)) = false := bne_eq_false_iff_eq.mpr c26
                      clear c26
                      by_cases c27 : t136 = true
                      · subst c27
                        have H1 : (if t137 = 7 then (if t138.toList = ([120] : List UInt8) then (if t139 = true then (if t140 = 255 then (if t141 = true then (some (!t143)) else (some false)) else (some false)) else (some false)) else (some false)) else (some false)) = some r := by rw [if_pos rfl] at H; exact H
                        clear H
                        have H := H1
                        clear H1
                        by_cases c28 : t137 = 7
                        · rw [if_pos c28] at H
                          have c28b0 : (t137 == 7) = true := beq_iff_eq.mpr c28
                          have c28b1 : (t137 != 7) = false := bne_eq_false_iff_eq.mpr c28
                          clear c28
                          by_cases c29 : t138.toList = ([120] : List UInt8)
                          · rw [if_pos c29] at H
                            have c29b0 : (t138.toList == ([120] : List UInt8)) = true := beq_iff_eq.mpr c29
                            have c29b1 : (t138.toList != ([120] : List UInt8)) = false := bne_eq_false_iff_eq.mpr c29
                            clear c29
                            by_cases c30 : t139 = true
                            · subst c30
                              have H1 : (if t140 = 255 then (if t141 = true then (some (!t143)) else (some false)) else (some false)) = some r := by rw [if_pos rfl] at H; exact H
                              clear H
                              have H := H1
                              clear H1
                              by_cases c31 : t140 = 255
                              · rw [if_pos c31] at H
                                have c31b0 : (t140 == 255) = true := beq_iff_eq.mpr c31
                                have c31b1 : (t140 != 255) = false := bne_eq_false_iff_eq.mpr c31
                                clear c31
                                by_cases c32 : t141 = true
                                · subst c32
                                  have H1 : (some (!t143)) = some r := by rw [if_pos rfl] at H; exact H
                                  clear H
                                  have H := H1
                                  clear H1
                                  obtain rfl := Option.some.inj H
                                  go_enter Try.func48, Try.ntmps48
                                  go_wp2_with (first | ((with_reducible refine gate_callee (f := 36) rfl ?_); refine goesL_ (some 23) rfl rfl Try.func36 (by kernel_rfl) rfl #[.string (⟨#[97, 98, 49]⟩ : ByteArray)] rfl (by (try simp only [List.map_toArray, List.map_cons, List.map_nil]); first | done | rfl | (simp only [List.length_drop, List.length_take]; rfl)) ?_; (with_reducible refine (key_Snap.calls k (⟨#[97, 98, 49]⟩ : ByteArray) t123 t124 _ A1.out).mono ?_); rintro e w33 ⟨rfl, hb⟩; refine ⟨_, rfl, ?_⟩; have n0_ := Aside0.mk (below_step (by repeat (first | (with_reducible first | exact HB.out | apply below_alloc | apply pw_below_drewN | apply below_drew1) | exact HB.out)) hb); clear HB; have HB := n0_; clear n0_; (try clear hb); (try clear hb2); (try clear hk); (try clear hi)) | ((with_reducible refine gate_callee (f := 38) rfl ?_); refine goesL_ (some 27) rfl rfl Try.func38 (by kernel_rfl) rfl #[.int .i64 7, .string (⟨#[120]⟩ : ByteArray)] rfl (by (try simp only [List.map_toArray, List.map_cons, List.map_nil]); first | done | rfl | (simp only [List.length_drop, List.length_take]; rfl)) ?_; (with_reducible refine (key_File.calls k 7 (⟨#[120]⟩ : ByteArray) t125 t126 _ A2.out).mono ?_); rintro e w34 ⟨rfl, hb⟩; refine ⟨_, rfl, ?_⟩; have n0_ := Aside0.mk (below_step (by repeat (first | (with_reducible first | exact HB.out | apply below_alloc | apply pw_below_drewN | apply below_drew1) | exact HB.out)) hb); clear HB; have HB := n0_; clear n0_; (try clear hb); (try clear hb2); (try clear hk); (try clear hi)) | ((with_reducible refine gate_callee (f := 40) rfl ?_); refine goesL_ (some 31) rfl rfl Try.func40 (by kernel_rfl) rfl #[.int .i64 255] rfl (by (try simp only [List.map_toArray, List.map_cons, List.map_nil]); first | done | rfl | (simp only [List.length_drop, List.length_take]; rfl)) ?_; (with_reducible refine (key_Inode.calls 255 t127 t128 _ A3.out).mono ?_); rintro e w35 ⟨rfl, hb⟩; refine ⟨_, rfl, ?_⟩; have n0_ := Aside0.mk (below_step (by repeat (first | (with_reducible first | exact HB.out | apply below_alloc | apply pw_below_drewN | apply below_drew1) | exact HB.out)) hb); clear HB; have HB := n0_; clear n0_; (try clear hb); (try clear hb2); (try clear hk); (try clear hi)) | ((with_reducible refine gate_callee (f := 36) rfl ?_); refine goesL_ (some 35) rfl rfl Try.func36 (by kernel_rfl) rfl #[.string (⟨#[]⟩ : ByteArray)] rfl (by (try simp only [List.map_toArray, List.map_cons, List.map_nil]); first | done | rfl | (simp only [List.length_drop, List.length_take]; rfl)) ?_; (with_reducible refine (key_Snap.calls k (⟨#[]⟩ : ByteArray) t129 t130 _ A4.out).mono ?_); rintro e w36 ⟨rfl, hb⟩; refine ⟨_, rfl, ?_⟩; have n0_ := Aside0.mk (below_step (by repeat (first | (with_reducible first | exact HB.out | apply below_alloc | apply pw_below_drewN | apply below_drew1) | exact HB.out)) hb); clear HB; have HB := n0_; clear n0_; (try clear hb); (try clear hb2); (try clear hk); (try clear hi)) | ((with_reducible refine gate_callee (f := 38) rfl ?_); refine goesL_ (some 39) rfl rfl Try.func38 (by kernel_rfl) rfl #[.int .i64 0, .string (⟨#[120]⟩ : ByteArray)] rfl (by (try simp only [List.map_toArray, List.map_cons, List.map_nil]); first | done | rfl | (simp only [List.length_drop, List.length_take]; rfl)) ?_; (with_reducible refine (key_File.calls k 0 (⟨#[120]⟩ : ByteArray) t131 t132 _ A5.out).mono ?_); rintro e w37 ⟨rfl, hb⟩; refine ⟨_, rfl, ?_⟩; have n0_ := Aside0.mk (below_step (by repeat (first | (with_reducible first | exact HB.out | apply below_alloc | apply pw_below_drewN | apply below_drew1) | exact HB.out)) hb); clear HB; have HB := n0_; clear n0_; (try clear hb); (try clear hb2); (try clear hk); (try clear hi)) | ((with_reducible refine gate_callee (f := 40) rfl ?_); refine goesL_ (some 43) rfl rfl Try.func40 (by kernel_rfl) rfl #[.int .i64 256] rfl (by (try simp only [List.map_toArray, List.map_cons, List.map_nil]); first | done | rfl | (simp only [List.length_drop, List.length_take]; rfl)) ?_; (with_reducible refine (key_Inode.calls 256 t133 t134 _ A6.out).mono ?_); rintro e w38 ⟨rfl, hb⟩; refine ⟨_, rfl, ?_⟩; have n0_ := Aside0.mk (below_step (by repeat (first | (with_reducible first | exact HB.out | apply below_alloc | apply pw_below_drewN | apply below_drew1) | exact HB.out)) hb); clear HB; have HB := n0_; clear n0_; (try clear hb); (try clear hb2); (try clear hk); (try clear hi)) | ((with_reducible refine gate_callee (f := 42) rfl ?_); refine goesL_ (some 48) rfl rfl Try.func42 (by kernel_rfl) rfl #[.string t123] rfl (by (try simp only [List.map_toArray, List.map_cons, List.map_nil]); first | done | rfl | (simp only [List.length_drop, List.length_take]; rfl)) ?_; (with_reducible refine (key_Name.calls k t123 t135 true _ A7.out).mono ?_); rintro e w' ⟨rfl, ⟨nd, rfl⟩⟩; refine ⟨_, rfl, ?_⟩) | ((with_reducible refine gate_callee (f := 44) rfl ?_); refine goesL_ (some 53) rfl rfl Try.func44 (by kernel_rfl) rfl #[.string t125] rfl (by (try simp only [List.map_toArray, List.map_cons, List.map_nil]); first | done | rfl | (simp only [List.length_drop, List.length_take]; rfl)) ?_; (with_reducible refine (key_Path.calls k t125 t137 t138 true _ A8.out).mono ?_); rintro e w' ⟨rfl, ⟨nd, rfl⟩⟩; refine ⟨_, rfl, ?_⟩) | ((with_reducible refine gate_callee (f := 46) rfl ?_); refine goesL_ (some 59) rfl rfl Try.func46 (by kernel_rfl) rfl #[.string t127] rfl (by (try simp only [List.map_toArray, List.map_cons, List.map_nil]); first | done | rfl | (simp only [List.length_drop, List.length_take]; rfl)) ?_; (with_reducible refine (key_Number.calls t127 t140 true _ A9.out).mono ?_); rintro e w' ⟨rfl, ⟨nd, rfl⟩⟩; refine ⟨_, rfl, ?_⟩) | ((with_reducible refine gate_callee (f := 42) rfl ?_); refine goesL_ (some 63) rfl rfl Try.func42 (by kernel_rfl) rfl #[.string (⟨#[115]⟩ : ByteArray)] rfl (by (try simp only [List.map_toArray, List.map_cons, List.map_nil]); first | done | rfl | (simp only [List.length_drop, List.length_take]; rfl)) ?_; (with_reducible refine (key_Name.calls k (⟨#[115]⟩ : ByteArray) t142 t143 _ A10.out).mono ?_); rintro e w' ⟨rfl, ⟨nd, rfl⟩⟩; refine ⟨_, rfl, ?_⟩) | (go_at_call 25; (with_reducible refine (cryostatlaw0_Num.calls t124 t144 _ A12.out).mono ?_); rintro e w' ⟨rfl, ⟨nd, rfl⟩⟩) | (go_at_call 25; (with_reducible refine (cryostatlaw0_Num.calls t126 t145 _ A15.out).mono ?_); rintro e w' ⟨rfl, ⟨nd, rfl⟩⟩) | (go_at_call 25; (with_reducible refine (cryostatlaw0_Num.calls t128 t146 _ A18.out).mono ?_); rintro e w' ⟨rfl, ⟨nd, rfl⟩⟩) | (go_at_call 25; (with_reducible refine (cryostatlaw0_Num.calls t130 t147 _ A20.out).mono ?_); rintro e w' ⟨rfl, ⟨nd, rfl⟩⟩) | (go_at_call 25; (with_reducible refine (cryostatlaw0_Num.calls t132 t148 _ A22.out).mono ?_); rintro e w' ⟨rfl, ⟨nd, rfl⟩⟩) | (go_at_call 25; (with_reducible refine (cryostatlaw0_Num.calls t134 t149 _ A24.out).mono ?_); rintro e w' ⟨rfl, ⟨nd, rfl⟩⟩))
                                  go_ret
                                  exact ⟨by first | rfl | (simp [errW_none, errW_some] <;> rfl) | (simp [*, errW_none, errW_some] <;> rfl), by repeat (first | (with_reducible first | exact HB.out | apply below_alloc | apply pw_below_drewN | apply below_drew1) | exact HB.out)⟩
                                · replace c32 := Bool.eq_false_iff.mpr c32
                                  subst c32
                                  have H1 : (some false) = some r := by rw [if_neg (show ¬ (false = true) by decide)] at H; exact H
                                  clear H
                                  have H := H1
                                  clear H1
                                  exact Bool.noConfusion ((Option.some.inj H).trans hr.out)
                              · rw [if_neg c31] at H
                                have c31b0 : (t140 == 255) = false := beq_eq_false_iff_ne.mpr c31
                                have c31b1 : (t140 != 255) = true := bne_iff_ne.mpr c31
                                exact Bool.noConfusion ((Option.some.inj H).trans hr.out)
                            · replace c30 := Bool.eq_false_iff.mpr c30
                              subst c30
                              have H1 : (some false) = some r := by rw [if_neg (show ¬ (false = true) by decide)] at H; exact H
                              clear H
                              have H := H1
                              clear H1
                              exact Bool.noConfusion ((Option.some.inj H).trans hr.out)
                          · rw [if_neg c29] at H
                            have c29b0 : (t138.toList == ([120] : List UInt8)) = false := beq_eq_false_iff_ne.mpr c29
                            have c29b1 : (t138.toList != ([120] : List UInt8)) = true := bne_iff_ne.mpr c29
                            exact Bool.noConfusion ((Option.some.inj H).trans hr.out)
                        · rw [if_neg c28] at H
                          have c28b0 : (t137 == 7) = false := beq_eq_false_iff_ne.mpr c28
                          have c28b1 : (t137 != 7) = true := bne_iff_ne.mpr c28
                          exact Bool.noConfusion ((Option.some.inj H).trans hr.out)
                      · replace c27 := Bool.eq_false_iff.mpr c27
                        subst c27
                        have H1 : (some false) = some r := by rw [if_neg (show ¬ (false = true) by decide)] at H; exact H
                        clear H
                        have H := H1
                        clear H1
                        exact Bool.noConfusion ((Option.some.inj H).trans hr.out)
                    · rw [if_neg c26] at H
                      have c26b0 : (t135.toList == ([97, 98, 49] : List UInt8)) = false := beq_eq_false_iff_ne.mpr c26
                      have c26b1 : (t135.toList != ([97, 98, 49] : List UInt8)) = true := bne_iff_ne.mpr c26
                      exact Bool.noConfusion ((Option.some.inj H).trans hr.out)
                  · rw [if_neg c25] at H
                    have c25b0 : (t149 == 1600) = false := beq_eq_false_iff_ne.mpr c25
                    have c25b1 : (t149 != 1600) = true := bne_iff_ne.mpr c25
                    exact Bool.noConfusion ((Option.some.inj H).trans hr.out)
                · rw [if_neg c23] at H
                  have c23b0 : (t148 == 1600) = false := beq_eq_false_iff_ne.mpr c23
                  have c23b1 : (t148 != 1600) = true := bne_iff_ne.mpr c23
                  exact Bool.noConfusion ((Option.some.inj H).trans hr.out)
              · rw [if_neg c21] at H
                have c21b0 : (t147 == 1600) = false := beq_eq_false_iff_ne.mpr c21
                have c21b1 : (t147 != 1600) = true := bne_iff_ne.mpr c21
                exact Bool.noConfusion ((Option.some.inj H).trans hr.out)
            · rw [if_neg c19] at H
              have c19b0 : (t146 == 0) = false := beq_eq_false_iff_ne.mpr c19
              have c19b1 : (t146 != 0) = true := bne_iff_ne.mpr c19
              exact Bool.noConfusion ((Option.some.inj H).trans hr.out)
          · rw [if_neg c17] at H
            have c17b0 : (t127.toList == ([105, 255] : List UInt8)) = false := beq_eq_false_iff_ne.mpr c17
            have c17b1 : (t127.toList != ([105, 255] : List UInt8)) = true := bne_iff_ne.mpr c17
            exact Bool.noConfusion ((Option.some.inj H).trans hr.out)
        · rw [if_neg c16] at H
          have c16b0 : (t145 == 0) = false := beq_eq_false_iff_ne.mpr c16
          have c16b1 : (t145 != 0) = true := bne_iff_ne.mpr c16
          exact Bool.noConfusion ((Option.some.inj H).trans hr.out)
      · rw [if_neg c14] at H
        have c14b0 : (t125.toList == ([102, 7, 120] : List UInt8)) = false := beq_eq_false_iff_ne.mpr c14
        have c14b1 : (t125.toList != ([102, 7, 120] : List UInt8)) = true := bne_iff_ne.mpr c14
        exact Bool.noConfusion ((Option.some.inj H).trans hr.out)
    · rw [if_neg c13] at H
      have c13b0 : (t144 == 0) = false := beq_eq_false_iff_ne.mpr c13
      have c13b1 : (t144 != 0) = true := bne_iff_ne.mpr c13
      exact Bool.noConfusion ((Option.some.inj H).trans hr.out)
  · rw [if_neg c11] at H
    have c11b0 : (t123.toList == ([115, 97, 98, 49] : List UInt8)) = false := beq_eq_false_iff_ne.mpr c11
    have c11b1 : (t123.toList != ([115, 97, 98, 49] : List UInt8)) = true := bne_iff_ne.mpr c11
    exact Bool.noConfusion ((Option.some.inj H).trans hr.out)
/-! ### cryostatlaw16_KeyRows: function 12 -/
def cryostatlaw16_KeyRows.j0 : Nat → ByteArray → ByteArray → Int → Int → ByteArray → Int → ByteArray → Int → ByteArray → Bool → Option (Bool)
  | 0, _, _, _, _, _, _, _, _, _, _ => none
  | k + 1, x1, x2, x9, x10, x11, x12, x13, x14, x15, x57 => if x57 = true then ((cryostatlaw0_Num.f x12).bind fun t160 => (if ((t160 != 0) == (x11.toList == ([] : List UInt8))) = true then ((cryostatlaw0_Num.f x14).bind fun t161 => (some ((t161 != 0) == (x13.toList == ([] : List UInt8))))) else (some false))) else ((key_Inode.f x9).bind fun bt162 => (if ((Op.bytesLess x11.toList x13.toList) == (Op.bytesLess x1.toList x2.toList)) = true then (if ((x11.toList == x13.toList) == (x1.toList == x2.toList)) = true then (if x9 = x10 then ((cryostatlaw0_Num.f bt162.2).bind fun t164 => (if t164 = 0 then (some (Op.bytesLess x11.toList bt162.1.toList)) else (some false))) else (if ((Op.bytesLess x11.toList x15.toList) == (decide (x9 < x10))) = true then ((cryostatlaw0_Num.f bt162.2).bind fun t165 => (if t165 = 0 then (some (Op.bytesLess x11.toList bt162.1.toList)) else (some false))) else (some false))) else (some false)) else (some false)))
def cryostatlaw16_KeyRows.f (k : Nat) (a0 : Int) (a1 : ByteArray) (a2 : ByteArray) (a3 : Int) : Option (Bool) := (cryostatlaw16_awake.f k).bind fun t150 => (if t150 = true then ((key_File.f k (wrap64 (1 + (Go.bits .and .i64 a0 127))) a1).bind fun bt151 => ((key_File.f k (wrap64 (1 + (Go.bits .and .i64 a0 127))) a2).bind fun bt153 => ((key_File.f k (wrap64 (1 + (Go.bits .and .i64 a3 127))) a1).bind fun bt155 => ((cryostatlaw0_Num.f bt151.2).bind fun t157 => (if t157 = 0 then ((cryostatlaw0_Num.f bt153.2).bind fun t158 => (if t158 = 0 then ((cryostatlaw0_Num.f bt155.2).bind fun t159 => (cryostatlaw16_KeyRows.j0 k a1 a2 (wrap64 (1 + (Go.bits .and .i64 a0 127))) (wrap64 (1 + (Go.bits .and .i64 a3 127))) bt151.1 bt151.2 bt153.1 bt153.2 bt155.1 (t159 != 0))) else (cryostatlaw16_KeyRows.j0 k a1 a2 (wrap64 (1 + (Go.bits .and .i64 a0 127))) (wrap64 (1 + (Go.bits .and .i64 a3 127))) bt151.1 bt151.2 bt153.1 bt153.2 bt155.1 true))) else (cryostatlaw16_KeyRows.j0 k a1 a2 (wrap64 (1 + (Go.bits .and .i64 a0 127))) (wrap64 (1 + (Go.bits .and .i64 a3 127))) bt151.1 bt151.2 bt153.1 bt153.2 bt155.1 true)))))) else (some false))
theorem cryostatlaw16_KeyRows.mono_l : ∀ k, (∀ y0 y1 y2 y3 y4 y5 y6 y7 y8 y9, LeO (cryostatlaw16_KeyRows.j0 k y0 y1 y2 y3 y4 y5 y6 y7 y8 y9) (cryostatlaw16_KeyRows.j0 (k + 1) y0 y1 y2 y3 y4 y5 y6 y7 y8 y9))
  | 0 => fun _ _ _ _ _ _ _ _ _ _ r h => by simp [cryostatlaw16_KeyRows.j0] at h
  | k + 1 => by
    have ih0 := cryostatlaw16_KeyRows.mono_l k
    · intro y0 y1 y2 y3 y4 y5 y6 y7 y8 y9
      unfold cryostatlaw16_KeyRows.j0
      repeat' first
      | (with_reducible exact ih0 _ _ _ _ _ _ _ _ _ _)
      | (with_reducible exact cryostatlaw16_awake.mono _)
      | (with_reducible exact key_File.mono _ _ _)
      | (with_reducible exact LeO.refl _)
      | (with_reducible exact LeO.none _)
      | (with_reducible refine LeO.ite ?_ ?_)
      | (with_reducible refine LeO.bind ?_ (fun _ => ?_))
      | exact ih0 _ _ _ _ _ _ _ _ _ _
      | exact cryostatlaw16_awake.mono _
      | exact key_File.mono _ _ _
      | exact LeO.none _
      | refine LeO.ite ?_ ?_
      | refine LeO.bind ?_ (fun _ => ?_)
theorem cryostatlaw16_KeyRows.mono : ∀ a0 a1 a2 a3 k, LeO (cryostatlaw16_KeyRows.f k a0 a1 a2 a3) (cryostatlaw16_KeyRows.f (k + 1) a0 a1 a2 a3) := by
  intro a0 a1 a2 a3 k
  have ih0 := cryostatlaw16_KeyRows.mono_l k
  unfold cryostatlaw16_KeyRows.f
  repeat' first
      | (with_reducible exact ih0 _ _ _ _ _ _ _ _ _ _)
      | (with_reducible exact cryostatlaw16_awake.mono _)
      | (with_reducible exact key_File.mono _ _ _)
      | (with_reducible exact LeO.refl _)
      | (with_reducible exact LeO.none _)
      | (with_reducible refine LeO.ite ?_ ?_)
      | (with_reducible refine LeO.bind ?_ (fun _ => ?_))
      | exact ih0 _ _ _ _ _ _ _ _ _ _
      | exact cryostatlaw16_awake.mono _
      | exact key_File.mono _ _ _
      | exact LeO.none _
      | refine LeO.ite ?_ ?_
      | refine LeO.bind ?_ (fun _ => ?_)
set_option maxHeartbeats 8000000 in
set_option maxRecDepth 100000 in
theorem cryostatlaw16_KeyRows.calls (k : Nat) (a0 : Int) (a1 : ByteArray) (a2 : ByteArray) (a3 : Int) (r : Bool) (w : World) (hr : Aside0 (r = true)) (h : cryostatlaw16_KeyRows.f k a0 a1 a2 a3 = some r) :
    Calls Try.prog 12 #[.int .i64 a0, .string a1, .string a2, .int .i64 a3] w fun e w' => e = .returned (.bool r) ∧ Below w.heap.size w w' := by
  have HB := Aside0.mk (Below.refl w.heap.size w)
  have H : ((cryostatlaw16_awake.f k).bind fun t150 => (if t150 = true then ((key_File.f k (wrap64 (1 + (Go.bits .and .i64 a0 127))) a1).bind fun bt151 => ((key_File.f k (wrap64 (1 + (Go.bits .and .i64 a0 127))) a2).bind fun bt153 => ((key_File.f k (wrap64 (1 + (Go.bits .and .i64 a3 127))) a1).bind fun bt155 => ((cryostatlaw0_Num.f bt151.2).bind fun t157 => (if t157 = 0 then ((cryostatlaw0_Num.f bt153.2).bind fun t158 => (if t158 = 0 then ((cryostatlaw0_Num.f bt155.2).bind fun t159 => (cryostatlaw16_KeyRows.j0 k a1 a2 (wrap64 (1 + (Go.bits .and .i64 a0 127))) (wrap64 (1 + (Go.bits .and .i64 a3 127))) bt151.1 bt151.2 bt153.1 bt153.2 bt155.1 (t159 != 0))) else (cryostatlaw16_KeyRows.j0 k a1 a2 (wrap64 (1 + (Go.bits .and .i64 a0 127))) (wrap64 (1 + (Go.bits .and .i64 a3 127))) bt151.1 bt151.2 bt153.1 bt153.2 bt155.1 true))) else (cryostatlaw16_KeyRows.j0 k a1 a2 (wrap64 (1 + (Go.bits .and .i64 a0 127))) (wrap64 (1 + (Go.bits .and .i64 a3 127))) bt151.1 bt151.2 bt153.1 bt153.2 bt155.1 true)))))) else (some false))) = some r := h
  clear h
  replace H := Option.bind_eq_some_iff.mp H
  obtain ⟨t150, A50, H⟩ := H
  replace H : (if t150 = true then ((key_File.f k (wrap64 (1 + (Go.bits .and .i64 a0 127))) a1).bind fun bt151 => ((key_File.f k (wrap64 (1 + (Go.bits .and .i64 a0 127))) a2).bind fun bt153 => ((key_File.f k (wrap64 (1 + (Go.bits .and .i64 a3 127))) a1).bind fun bt155 => ((cryostatlaw0_Num.f bt151.2).bind fun t157 => (if t157 = 0 then ((cryostatlaw0_Num.f bt153.2).bind fun t158 => (if t158 = 0 then ((cryostatlaw0_Num.f bt155.2).bind fun t159 => (cryostatlaw16_KeyRows.j0 k a1 a2 (wrap64 (1 + (Go.bits .and .i64 a0 127))) (wrap64 (1 + (Go.bits .and .i64 a3 127))) bt151.1 bt151.2 bt153.1 bt153.2 bt155.1 (t159 != 0))) else (cryostatlaw16_KeyRows.j0 k a1 a2 (wrap64 (1 + (Go.bits .and .i64 a0 127))) (wrap64 (1 + (Go.bits .and .i64 a3 127))) bt151.1 bt151.2 bt153.1 bt153.2 bt155.1 true))) else (cryostatlaw16_KeyRows.j0 k a1 a2 (wrap64 (1 + (Go.bits .and .i64 a0 127))) (wrap64 (1 + (Go.bits .and .i64 a3 127))) bt151.1 bt151.2 bt153.1 bt153.2 bt155.1 true)))))) else (some false)) = some r := H
  have A5 := Aside0.mk A50
  clear A50
  by_cases c6 : t150 = true
  · subst c6
    have H1 : ((key_File.f k (wrap64 (1 + (Go.bits .and .i64 a0 127))) a1).bind fun bt151 => ((key_File.f k (wrap64 (1 + (Go.bits .and .i64 a0 127))) a2).bind fun bt153 => ((key_File.f k (wrap64 (1 + (Go.bits .and .i64 a3 127))) a1).bind fun bt155 => ((cryostatlaw0_Num.f bt151.2).bind fun t157 => (if t157 = 0 then ((cryostatlaw0_Num.f bt153.2).bind fun t158 => (if t158 = 0 then ((cryostatlaw0_Num.f bt155.2).bind fun t159 => (cryostatlaw16_KeyRows.j0 k a1 a2 (wrap64 (1 + (Go.bits .and .i64 a0 127))) (wrap64 (1 + (Go.bits .and .i64 a3 127))) bt151.1 bt151.2 bt153.1 bt153.2 bt155.1 (t159 != 0))) else (cryostatlaw16_KeyRows.j0 k a1 a2 (wrap64 (1 + (Go.bits .and .i64 a0 127))) (wrap64 (1 + (Go.bits .and .i64 a3 127))) bt151.1 bt151.2 bt153.1 bt153.2 bt155.1 true))) else (cryostatlaw16_KeyRows.j0 k a1 a2 (wrap64 (1 + (Go.bits .and .i64 a0 127))) (wrap64 (1 + (Go.bits .and .i64 a3 127))) bt151.1 bt151.2 bt153.1 bt153.2 bt155.1 true)))))) = some r := by rw [if_pos rfl] at H; exact H
    clear H
    have H := H1
    clear H1
    replace H := Option.bind_eq_some_iff.mp H
    obtain ⟨⟨t151, t152⟩, A70, H⟩ := H
    replace H : ((key_File.f k (wrap64 (1 + (Go.bits .and .i64 a0 127))) a2).bind fun bt153 => ((key_File.f k (wrap64 (1 + (Go.bits .and .i64 a3 127))) a1).bind fun bt155 => ((cryostatlaw0_Num.f t152).bind fun t157 => (if t157 = 0 then ((cryostatlaw0_Num.f bt153.2).bind fun t158 => (if t158 = 0 then ((cryostatlaw0_Num.f bt155.2).bind fun t159 => (cryostatlaw16_KeyRows.j0 k a1 a2 (wrap64 (1 + (Go.bits .and .i64 a0 127))) (wrap64 (1 + (Go.bits .and .i64 a3 127))) t151 t152 bt153.1 bt153.2 bt155.1 (t159 != 0))) else (cryostatlaw16_KeyRows.j0 k a1 a2 (wrap64 (1 + (Go.bits .and .i64 a0 127))) (wrap64 (1 + (Go.bits .and .i64 a3 127))) t151 t152 bt153.1 bt153.2 bt155.1 true))) else (cryostatlaw16_KeyRows.j0 k a1 a2 (wrap64 (1 + (Go.bits .and .i64 a0 127))) (wrap64 (1 + (Go.bits .and .i64 a3 127))) t151 t152 bt153.1 bt153.2 bt155.1 true))))) = some r := H
    have A7 := Aside0.mk A70
    clear A70
    replace H := Option.bind_eq_some_iff.mp H
    obtain ⟨⟨t153, t154⟩, A80, H⟩ := H
    replace H : ((key_File.f k (wrap64 (1 + (Go.bits .and .i64 a3 127))) a1).bind fun bt155 => ((cryostatlaw0_Num.f t152).bind fun t157 => (if t157 = 0 then ((cryostatlaw0_Num.f t154).bind fun t158 => (if t158 = 0 then ((cryostatlaw0_Num.f bt155.2).bind fun t159 => (cryostatlaw16_KeyRows.j0 k a1 a2 (wrap64 (1 + (Go.bits .and .i64 a0 127))) (wrap64 (1 + (Go.bits .and .i64 a3 127))) t151 t152 t153 t154 bt155.1 (t159 != 0))) else (cryostatlaw16_KeyRows.j0 k a1 a2 (wrap64 (1 + (Go.bits .and .i64 a0 127))) (wrap64 (1 + (Go.bits .and .i64 a3 127))) t151 t152 t153 t154 bt155.1 true))) else (cryostatlaw16_KeyRows.j0 k a1 a2 (wrap64 (1 + (Go.bits .and .i64 a0 127))) (wrap64 (1 + (Go.bits .and .i64 a3 127))) t151 t152 t153 t154 bt155.1 true)))) = some r := H
    have A8 := Aside0.mk A80
    clear A80
    replace H := Option.bind_eq_some_iff.mp H
    obtain ⟨⟨t155, t156⟩, A90, H⟩ := H
    replace H : ((cryostatlaw0_Num.f t152).bind fun t157 => (if t157 = 0 then ((cryostatlaw0_Num.f t154).bind fun t158 => (if t158 = 0 then ((cryostatlaw0_Num.f t156).bind fun t159 => (cryostatlaw16_KeyRows.j0 k a1 a2 (wrap64 (1 + (Go.bits .and .i64 a0 127))) (wrap64 (1 + (Go.bits .and .i64 a3 127))) t151 t152 t153 t154 t155 (t159 != 0))) else (cryostatlaw16_KeyRows.j0 k a1 a2 (wrap64 (1 + (Go.bits .and .i64 a0 127))) (wrap64 (1 + (Go.bits .and .i64 a3 127))) t151 t152 t153 t154 t155 true))) else (cryostatlaw16_KeyRows.j0 k a1 a2 (wrap64 (1 + (Go.bits .and .i64 a0 127))) (wrap64 (1 + (Go.bits .and .i64 a3 127))) t151 t152 t153 t154 t155 true))) = some r := H
    have A9 := Aside0.mk A90
    clear A90
    have HC10 := Aside0.mk H
    clear H
    go_enter Try.func12, Try.ntmps12
    go_upto_region 7 with (first | ((with_reducible refine gate_callee (f := 48) rfl ?_); refine goesL_ (some 19) rfl rfl Try.func48 (by kernel_rfl) rfl #[] rfl (by (try simp only [List.map_toArray, List.map_cons, List.map_nil]); first | done | rfl | (simp only [List.length_drop, List.length_take]; rfl)) ?_; (with_reducible refine (cryostatlaw16_awake.calls k  true _ ⟨rfl⟩ A5.out).mono ?_); rintro e w11 ⟨rfl, hb⟩; refine ⟨_, rfl, ?_⟩; have n0_ := Aside0.mk (below_step (by repeat (first | (with_reducible first | exact HB.out | apply below_alloc | apply pw_below_drewN | apply below_drew1) | exact HB.out)) hb); clear HB; have HB := n0_; clear n0_; (try clear hb); (try clear hb2); (try clear hk); (try clear hi)) | ((with_reducible refine gate_callee (f := 38) rfl ?_); refine goesL_ (some 30) rfl rfl Try.func38 (by kernel_rfl) rfl #[.int .i64 (wrap64 (1 + (Go.bits .and .i64 a0 127))), .string a1] rfl (by (try simp only [List.map_toArray, List.map_cons, List.map_nil]); first | done | rfl | (simp only [List.length_drop, List.length_take]; rfl)) ?_; (with_reducible refine (key_File.calls k (wrap64 (1 + (Go.bits .and .i64 a0 127))) a1 t151 t152 _ A7.out).mono ?_); rintro e w12 ⟨rfl, hb⟩; refine ⟨_, rfl, ?_⟩; have n0_ := Aside0.mk (below_step (by repeat (first | (with_reducible first | exact HB.out | apply below_alloc | apply pw_below_drewN | apply below_drew1) | exact HB.out)) hb); clear HB; have HB := n0_; clear n0_; (try clear hb); (try clear hb2); (try clear hk); (try clear hi)) | ((with_reducible refine gate_callee (f := 38) rfl ?_); refine goesL_ (some 36) rfl rfl Try.func38 (by kernel_rfl) rfl #[.int .i64 (wrap64 (1 + (Go.bits .and .i64 a0 127))), .string a2] rfl (by (try simp only [List.map_toArray, List.map_cons, List.map_nil]); first | done | rfl | (simp only [List.length_drop, List.length_take]; rfl)) ?_; (with_reducible refine (key_File.calls k (wrap64 (1 + (Go.bits .and .i64 a0 127))) a2 t153 t154 _ A8.out).mono ?_); rintro e w13 ⟨rfl, hb⟩; refine ⟨_, rfl, ?_⟩; have n0_ := Aside0.mk (below_step (by repeat (first | (with_reducible first | exact HB.out | apply below_alloc | apply pw_below_drewN | apply below_drew1) | exact HB.out)) hb); clear HB; have HB := n0_; clear n0_; (try clear hb); (try clear hb2); (try clear hk); (try clear hi)) | ((with_reducible refine gate_callee (f := 38) rfl ?_); refine goesL_ (some 42) rfl rfl Try.func38 (by kernel_rfl) rfl #[.int .i64 (wrap64 (1 + (Go.bits .and .i64 a3 127))), .string a1] rfl (by (try simp only [List.map_toArray, List.map_cons, List.map_nil]); first | done | rfl | (simp only [List.length_drop, List.length_take]; rfl)) ?_; (with_reducible refine (key_File.calls k (wrap64 (1 + (Go.bits .and .i64 a3 127))) a1 t155 t156 _ A9.out).mono ?_); rintro e w14 ⟨rfl, hb⟩; refine ⟨_, rfl, ?_⟩; have n0_ := Aside0.mk (below_step (by repeat (first | (with_reducible first | exact HB.out | apply below_alloc | apply pw_below_drewN | apply below_drew1) | exact HB.out)) hb); clear HB; have HB := n0_; clear n0_; (try clear hb); (try clear hb2); (try clear hk); (try clear hi)))
    (try simp only [Act.put, List.setIfInBounds_toArray, List.set_cons_zero, List.set_cons_succ])
    go_cut [57] (fun v57 wc => ∃ (kq : Nat) (x57_9 : Bool), v57 = .bool x57_9 ∧ Aside0 (cryostatlaw16_KeyRows.j0 kq a1 a2 (wrap64 (1 + (Go.bits .and .i64 a0 127))) (wrap64 (1 + (Go.bits .and .i64 a3 127))) t151 t152 t153 t154 t155 x57_9 = some r) ∧ Aside0 (kq ≤ k) ∧ Aside0 (Below w.heap.size w wc))
    case first =>
      have H := HC10.out
      clear HC10
      replace H := Option.bind_eq_some_iff.mp H
      obtain ⟨t157, A150, H⟩ := H
      replace H : (if t157 = 0 then ((cryostatlaw0_Num.f t154).bind fun t158 => (if t158 = 0 then ((cryostatlaw0_Num.f t156).bind fun t159 => (cryostatlaw16_KeyRows.j0 k a1 a2 (wrap64 (1 + (Go.bits .and .i64 a0 127))) (wrap64 (1 + (Go.bits .and .i64 a3 127))) t151 t152 t153 t154 t155 (t159 != 0))) else (cryostatlaw16_KeyRows.j0 k a1 a2 (wrap64 (1 + (Go.bits .and .i64 a0 127))) (wrap64 (1 + (Go.bits .and .i64 a3 127))) t151 t152 t153 t154 t155 true))) else (cryostatlaw16_KeyRows.j0 k a1 a2 (wrap64 (1 + (Go.bits .and .i64 a0 127))) (wrap64 (1 + (Go.bits .and .i64 a3 127))) t151 t152 t153 t154 t155 true)) = some r := H
      have A15 := Aside0.mk A150
      clear A150
      by_cases c16 : t157 = 0
      · rw [if_pos c16] at H
        have c16b0 : (t157 == 0) = true := beq_iff_eq.mpr c16
        have c16b1 : (t157 != 0) = false := bne_eq_false_iff_eq.mpr c16
        clear c16
        (first | rw [c16b0] | (simp only [i64_w, i32_w]; rw [c16b0]) | skip)
        replace H := Option.bind_eq_some_iff.mp H
        obtain ⟨t158, A170, H⟩ := H
        replace H : (if t158 = 0 then ((cryostatlaw0_Num.f t156).bind fun t159 => (cryostatlaw16_KeyRows.j0 k a1 a2 (wrap64 (1 + (Go.bits .and .i64 a0 127))) (wrap64 (1 + (Go.bits .and .i64 a3 127))) t151 t152 t153 t154 t155 (t159 != 0))) else (cryostatlaw16_KeyRows.j0 k a1 a2 (wrap64 (1 + (Go.bits .and .i64 a0 127))) (wrap64 (1 + (Go.bits .and .i64 a3 127))) t151 t152 t153 t154 t155 true)) = some r := H
        have A17 := Aside0.mk A170
        clear A170
        by_cases c18 : t158 = 0
        · rw [if_pos c18] at H
          have c18b0 : (t158 == 0) = true := beq_iff_eq.mpr c18
          have c18b1 : (t158 != 0) = false := bne_eq_false_iff_eq.mpr c18
          clear c18
          replace H := Option.bind_eq_some_iff.mp H
          obtain ⟨t159, A190, H⟩ := H
          replace H : (cryostatlaw16_KeyRows.j0 k a1 a2 (wrap64 (1 + (Go.bits .and .i64 a0 127))) (wrap64 (1 + (Go.bits .and .i64 a3 127))) t151 t152 t153 t154 t155 (t159 != 0)) = some r := H
          have A19 := Aside0.mk A190
          clear A190
          have H' := Aside0.mk H
          clear H
          go_wp2_with (first | ((with_reducible refine gate_callee (f := 25) rfl ?_); refine goesL_ (some 46) rfl rfl Try.func25 (by kernel_rfl) rfl #[.int .i64 t152] rfl (by (try simp only [List.map_toArray, List.map_cons, List.map_nil]); first | done | rfl | (simp only [List.length_drop, List.length_take]; rfl)) ?_; (with_reducible refine (cryostatlaw0_Num.calls t152 t157 _ A15.out).mono ?_); rintro e w' ⟨rfl, ⟨nd, rfl⟩⟩; refine ⟨_, rfl, ?_⟩) | (go_at_call 25; (with_reducible refine (cryostatlaw0_Num.calls t154 t158 _ A17.out).mono ?_); rintro e w' ⟨rfl, ⟨nd, rfl⟩⟩) | (go_at_call 25; (with_reducible refine (cryostatlaw0_Num.calls t156 t159 _ A19.out).mono ?_); rintro e w' ⟨rfl, ⟨nd, rfl⟩⟩))
          go_meet
          case rel => exact ⟨_, ((t159 != 0)), (by first | rfl | (simp; done) | (simp [*]; done)), H', ⟨by first | omega | exact Nat.le_refl _⟩, ⟨by repeat (first | (with_reducible first | exact HB.out | apply below_alloc | apply pw_below_drewN | apply below_drew1) | exact HB.out)⟩⟩
        · rw [if_neg c18] at H
          have c18b0 : (t158 == 0) = false := beq_eq_false_iff_ne.mpr c18
          have c18b1 : (t158 != 0) = true := bne_iff_ne.mpr c18
          have H' := Aside0.mk H
          clear H
          go_wp2_with (first | ((with_reducible refine gate_callee (f := 25) rfl ?_); refine goesL_ (some 46) rfl rfl Try.func25 (by kernel_rfl) rfl #[.int .i64 t152] rfl (by (try simp only [List.map_toArray, List.map_cons, List.map_nil]); first | done | rfl | (simp only [List.length_drop, List.length_take]; rfl)) ?_; (with_reducible refine (cryostatlaw0_Num.calls t152 t157 _ A15.out).mono ?_); rintro e w' ⟨rfl, ⟨nd, rfl⟩⟩; refine ⟨_, rfl, ?_⟩) | (go_at_call 25; (with_reducible refine (cryostatlaw0_Num.calls t154 t158 _ A17.out).mono ?_); rintro e w' ⟨rfl, ⟨nd, rfl⟩⟩))
          go_meet
          case rel => exact ⟨_, (true), (by first | rfl | (simp; done) | (simp [*]; done)), H', ⟨by first | omega | exact Nat.le_refl _⟩, ⟨by repeat (first | (with_reducible first | exact HB.out | apply below_alloc | apply pw_below_drewN | apply below_drew1) | exact HB.out)⟩⟩
      · rw [if_neg c16] at H
        have c16b0 : (t157 == 0) = false := beq_eq_false_iff_ne.mpr c16
        have c16b1 : (t157 != 0) = true := bne_iff_ne.mpr c16
        (first | rw [c16b0] | (simp only [i64_w, i32_w]; rw [c16b0]) | skip)
        have H' := Aside0.mk H
        clear H
        go_wp2_with (first | ((with_reducible refine gate_callee (f := 25) rfl ?_); refine goesL_ (some 46) rfl rfl Try.func25 (by kernel_rfl) rfl #[.int .i64 t152] rfl (by (try simp only [List.map_toArray, List.map_cons, List.map_nil]); first | done | rfl | (simp only [List.length_drop, List.length_take]; rfl)) ?_; (with_reducible refine (cryostatlaw0_Num.calls t152 t157 _ A15.out).mono ?_); rintro e w' ⟨rfl, ⟨nd, rfl⟩⟩; refine ⟨_, rfl, ?_⟩))
        go_meet
        case rel => exact ⟨_, (true), (by first | rfl | (simp; done) | (simp [*]; done)), H', ⟨by first | omega | exact Nat.le_refl _⟩, ⟨by repeat (first | (with_reducible first | exact HB.out | apply below_alloc | apply pw_below_drewN | apply below_drew1) | exact HB.out)⟩⟩
    case rest =>
      clear HC10
      try clear c1
      try clear c2
      try clear p2
      try clear c3
      try clear c4
      try clear c6
      try clear p6
      try clear c12
      try clear c16
      try clear c16b0
      try clear c16b1
      try clear c18
      try clear c18b0
      try clear c18b1
      obtain ⟨kq, x57_9, rfl, HA, HJ9, HB⟩ := hcut
      cases kq with
      | zero => exact absurd HA.out (by simp [cryostatlaw16_KeyRows.j0])
      | succ kj9 =>
        have H := HA.out
        clear HA
        simp only [cryostatlaw16_KeyRows.j0] at H
        by_cases c20 : x57_9 = true
        · subst c20
          have H1 : ((cryostatlaw0_Num.f t152).bind fun t160 => (if ((t160 != 0) == (t151.toList == ([] : List UInt8))) = true then ((cryostatlaw0_Num.f t154).bind fun t161 => (some ((t161 != 0) == (t153.toList == ([] : List UInt8))))) else (some false))) = some r := by rw [if_pos rfl] at H; exact H
          clear H
          have H := H1
          clear H1
          replace H := Option.bind_eq_some_iff.mp H
          obtain ⟨t160, A210, H⟩ := H
          replace H : (if ((t160 != 0) == (t151.toList == ([] : List UInt8))) = true then ((cryostatlaw0_Num.f t154).bind fun t161 => (some ((t161 != 0) == (t153.toList == ([] : List UInt8))))) else (some false)) = some r := H
          have A21 := Aside0.mk A210
          clear A210
          by_cases c22 : ((t160 != 0) == (t151.toList == ([] : List UInt8))) = true
          · rw [if_pos c22] at H
            have c22b0 : ((t160 != 0) == (t151.toList == ([] : List UInt8))) = true := c22
            (try (have c22b1 : decide ((t160 != 0) = (t151.toList == ([] : List UInt8))) = true := by simpa using c22))
            (try (have c22b2 : ((t160 != 0) == (t151.toList == ([] : List UInt8))) = true := by simpa using c22))
            clear c22
            have qq : ((t160 != 0) = true ∧ (t151.toList == ([] : List UInt8)) = true) ∨ ((t160 != 0) = false ∧ (t151.toList == ([] : List UInt8)) = false) := by
              revert c22b0; cases (t160 != 0) <;> cases (t151.toList == ([] : List UInt8)) <;> simp
            clear c22b0; (try clear c22b1); (try clear c22b2)
            rcases qq with ⟨z1, z2⟩ | ⟨z1, z2⟩
            all_goals (try have z3 : (t160 == 0) = false := by simpa using z1)
            all_goals (try have z3 : (t160 == 0) = true := by simpa using z1)
            all_goals (try have z4 : (t151.toList != ([] : List UInt8)) = false := by simpa using z2)
            all_goals (try have z4 : (t151.toList != ([] : List UInt8)) = true := by simpa using z2)
            all_goals
              replace H := Option.bind_eq_some_iff.mp H
              obtain ⟨t161, A230, H⟩ := H
              replace H : (some ((t161 != 0) == (t153.toList == ([] : List UInt8)))) = some r := H
              have A23 := Aside0.mk A230
              clear A230
              obtain rfl := Option.some.inj H
              go_wp2_with (first | ((with_reducible refine gate_callee (f := 25) rfl ?_); refine goesL_ (some 59) rfl rfl Try.func25 (by kernel_rfl) rfl #[.int .i64 t152] rfl (by (try simp only [List.map_toArray, List.map_cons, List.map_nil]); first | done | rfl | (simp only [List.length_drop, List.length_take]; rfl)) ?_; (with_reducible refine (cryostatlaw0_Num.calls t152 t160 _ A21.out).mono ?_); rintro e w' ⟨rfl, ⟨nd, rfl⟩⟩; refine ⟨_, rfl, ?_⟩) | (go_at_call 25; (with_reducible refine (cryostatlaw0_Num.calls t154 t161 _ A23.out).mono ?_); rintro e w' ⟨rfl, ⟨nd, rfl⟩⟩))
              go_ret
              exact ⟨by first | rfl | (simp [errW_none, errW_some] <;> rfl) | (simp [*, errW_none, errW_some] <;> rfl), by repeat (first | (with_reducible first | exact HB.out | apply below_alloc | apply pw_below_drewN | apply below_drew1) | exact HB.out)⟩
          · rw [if_neg c22] at H
            have c22b0 : ((t160 != 0) == (t151.toList == ([] : List UInt8))) = false := by simpa using c22
            (try (have c22b1 : decide ((t160 != 0) = (t151.toList == ([] : List UInt8))) = false := by simpa using c22))
            (try (have c22b2 : ((t160 != 0) == (t151.toList == ([] : List UInt8))) = false := by simpa using c22))
            (try (have c22b3 : ¬ ((t160 != 0) = (t151.toList == ([] : List UInt8))) := by simpa using c22))
            clear c22
            exact Bool.noConfusion ((Option.some.inj H).trans hr.out)
        · replace c20 := Bool.eq_false_iff.mpr c20
          subst c20
          have H1 : ((key_Inode.f (wrap64 (1 + (Go.bits .and .i64 a0 127)))).bind fun bt162 => (if ((Op.bytesLess t151.toList t153.toList) == (Op.bytesLess a1.toList a2.toList)) = true then (if ((t151.toList == t153.toList) == (a1.toList == a2.toList)) = true then (if (wrap64 (1 + (Go.bits .and .i64 a0 127))) = (wrap64 (1 + (Go.bits .and .i64 a3 127))) then ((cryostatlaw0_Num.f bt162.2).bind fun t164 => (if t164 = 0 then (some (Op.bytesLess t151.toList bt162.1.toList)) else (some false))) else (if ((Op.bytesLess t151.toList t155.toList) == (decide ((wrap64 (1 + (Go.bits .and .i64 a0 127))) < (wrap64 (1 + (Go.bits .and .i64 a3 127)))))) = true then ((cryostatlaw0_Num.f bt162.2).bind fun t165 => (if t165 = 0 then (some (Op.bytesLess t151.toList bt162.1.toList)) else (some false))) else (some false))) else (some false)) else (some false))) = some r := by rw [if_neg (show ¬ (false = true) by decide)] at H; exact H
          clear H
          have H := H1
          clear H1
          replace H := Option.bind_eq_some_iff.mp H
          obtain ⟨⟨t162, t163⟩, A240, H⟩ := H
          replace H : (if ((Op.bytesLess t151.toList t153.toList) == (Op.bytesLess a1.toList a2.toList)) = true then (if ((t151.toList == t153.toList) == (a1.toList == a2.toList)) = true then (if (wrap64 (1 + (Go.bits .and .i64 a0 127))) = (wrap64 (1 + (Go.bits .and .i64 a3 127))) then ((cryostatlaw0_Num.f t163).bind fun t164 => (if t164 = 0 then (some (Op.bytesLess t151.toList t162.toList)) else (some false))) else (if ((Op.bytesLess t151.toList t155.toList) == (decide ((wrap64 (1 + (Go.bits .and .i64 a0 127))) < (wrap64 (1 + (Go.bits .and .i64 a3 127)))))) = true then ((cryostatlaw0_Num.f t163).bind fun t165 => (if t165 = 0 then (some (Op.bytesLess t151.toList t162.toList)) else (some false))) else (some false))) else (some false)) else (some false)) = some r := H
          have A24 := Aside0.mk A240
          clear A240
          by_cases c25 : ((Op.bytesLess t151.toList t153.toList) == (Op.bytesLess a1.toList a2.toList)) = true
          · rw [if_pos c25] at H
            have c25b0 : ((Op.bytesLess t151.toList t153.toList) == (Op.bytesLess a1.toList a2.toList)) = true := c25
            (try (have c25b1 : decide ((Op.bytesLess t151.toList t153.toList) = (Op.bytesLess a1.toList a2.toList)) = true := by simpa using c25))
            (try (have c25b2 : ((Op.bytesLess t151.toList t153.toList) == (Op.bytesLess a1.toList a2.toList)) = true := by simpa using c25))
            clear c25
            by_cases c26 : ((t151.toList == t153.toList) == (a1.toList == a2.toList)) = true
            · rw [if_pos c26] at H
              have c26b0 : ((t151.toList == t153.toList) == (a1.toList == a2.toList)) = true := c26
              (try (have c26b1 : decide ((t151.toList == t153.toList) = (a1.toList == a2.toList)) = true := by simpa using c26))
              (try (have c26b2 : ((t151.toList == t153.toList) == (a1.toList == a2.toList)) = true := by simpa using c26))
              clear c26
              by_cases c27 : (wrap64 (1 + (Go.bits .and .i64 a0 127))) = (wrap64 (1 + (Go.bits .and .i64 a3 127)))
              · rw [if_pos c27] at H
                have c27b0 : ((wrap64 (1 + (Go.bits .and .i64 a0 127))) == (wrap64 (1 + (Go.bits .and .i64 a3 127)))) = true := beq_iff_eq.mpr c27
                have c27b1 : ((wrap64 (1 + (Go.bits .and .i64 a0 127))) != (wrap64 (1 + (Go.bits .and .i64 a3 127)))) = false := bne_eq_false_iff_eq.mpr c27
                clear c27
                replace H := Option.bind_eq_some_iff.mp H
                obtain ⟨t164, A280, H⟩ := H
                replace H : (if t164 = 0 then (some (Op.bytesLess t151.toList t162.toList)) else (some false)) = some r := H
                have A28 := Aside0.mk A280
                clear A280
                by_cases c29 : t164 = 0
                · rw [if_pos c29] at H
                  have c29b0 : (t164 == 0) = true := beq_iff_eq.mpr c29
                  have c29b1 : (t164 != 0) = false := bne_eq_false_iff_eq.mpr c29
                  clear c29
                  obtain rfl := Option.some.inj H
                  go_wp2_with (first | ((with_reducible refine gate_callee (f := 40) rfl ?_); refine goesL_ (some 74) rfl rfl Try.func40 (by kernel_rfl) rfl #[.int .i64 (wrap64 (1 + (Go.bits .and .i64 a0 127)))] rfl (by (try simp only [List.map_toArray, List.map_cons, List.map_nil]); first | done | rfl | (simp only [List.length_drop, List.length_take]; rfl)) ?_; (with_reducible refine (key_Inode.calls (wrap64 (1 + (Go.bits .and .i64 a0 127))) t162 t163 _ A24.out).mono ?_); rintro e w30 ⟨rfl, hb⟩; refine ⟨_, rfl, ?_⟩; have n0_ := Aside0.mk (below_step (by repeat (first | (with_reducible first | exact HB.out | apply below_alloc | apply pw_below_drewN | apply below_drew1) | exact HB.out)) hb); clear HB; have HB := n0_; clear n0_; (try clear hb); (try clear hb2); (try clear hk); (try clear hi)) | (go_at_call 25; (with_reducible refine (cryostatlaw0_Num.calls t163 t164 _ A28.out).mono ?_); rintro e w' ⟨rfl, ⟨nd, rfl⟩⟩))
                  go_ret
                  exact ⟨by first | rfl | (simp [errW_none, errW_some] <;> rfl) | (simp [*, errW_none, errW_some] <;> rfl), by repeat (first | (with_reducible first | exact HB.out | apply below_alloc | apply pw_below_drewN | apply below_drew1) | exact HB.out)⟩
                · rw [if_neg c29] at H
                  have c29b0 : (t164 == 0) = false := beq_eq_false_iff_ne.mpr c29
                  have c29b1 : (t164 != 0) = true := bne_iff_ne.mpr c29
                  exact Bool.noConfusion ((Option.some.inj H).trans hr.out)
              · rw [if_neg c27] at H
                have c27b0 : ((wrap64 (1 + (Go.bits .and .i64 a0 127))) == (wrap64 (1 + (Go.bits .and .i64 a3 127)))) = false := beq_eq_false_iff_ne.mpr c27
                have c27b1 : ((wrap64 (1 + (Go.bits .and .i64 a0 127))) != (wrap64 (1 + (Go.bits .and .i64 a3 127)))) = true := bne_iff_ne.mpr c27
                by_cases c32 : ((Op.bytesLess t151.toList t155.toList) == (decide ((wrap64 (1 + (Go.bits .and .i64 a0 127))) < (wrap64 (1 + (Go.bits .and .i64 a3 127)))))) = true
                · rw [if_pos c32] at H
                  have c32b0 : ((Op.bytesLess t151.toList t155.toList) == (decide ((wrap64 (1 + (Go.bits .and .i64 a0 127))) < (wrap64 (1 + (Go.bits .and .i64 a3 127)))))) = true := c32
                  (try (have c32b1 : decide ((Op.bytesLess t151.toList t155.toList) = (decide ((wrap64 (1 + (Go.bits .and .i64 a0 127))) < (wrap64 (1 + (Go.bits .and .i64 a3 127)))))) = true := by simpa using c32))
                  (try (have c32b2 : ((Op.bytesLess t151.toList t155.toList) == (decide ((wrap64 (1 + (Go.bits .and .i64 a0 127))) < (wrap64 (1 + (Go.bits .and .i64 a3 127)))))) = true := by simpa using c32))
                  clear c32
                  replace H := Option.bind_eq_some_iff.mp H
                  obtain ⟨t165, A330, H⟩ := H
                  replace H : (if t165 = 0 then (some (Op.bytesLess t151.toList t162.toList)) else (some false)) = some r := H
                  have A33 := Aside0.mk A330
                  clear A330
                  by_cases c34 : t165 = 0
                  · rw [if_pos c34] at H
                    have c34b0 : (t165 == 0) = true := beq_iff_eq.mpr c34
                    have c34b1 : (t165 != 0) = false := bne_eq_false_iff_eq.mpr c34
                    clear c34
                    obtain rfl := Option.some.inj H
                    go_wp2_with (first | ((with_reducible refine gate_callee (f := 40) rfl ?_); refine goesL_ (some 74) rfl rfl Try.func40 (by kernel_rfl) rfl #[.int .i64 (wrap64 (1 + (Go.bits .and .i64 a0 127)))] rfl (by (try simp only [List.map_toArray, List.map_cons, List.map_nil]); first | done | rfl | (simp only [List.length_drop, List.length_take]; rfl)) ?_; (with_reducible refine (key_Inode.calls (wrap64 (1 + (Go.bits .and .i64 a0 127))) t162 t163 _ A24.out).mono ?_); rintro e w35 ⟨rfl, hb⟩; refine ⟨_, rfl, ?_⟩; have n0_ := Aside0.mk (below_step (by repeat (first | (with_reducible first | exact HB.out | apply below_alloc | apply pw_below_drewN | apply below_drew1) | exact HB.out)) hb); clear HB; have HB := n0_; clear n0_; (try clear hb); (try clear hb2); (try clear hk); (try clear hi)) | (go_at_call 25; (with_reducible refine (cryostatlaw0_Num.calls t163 t165 _ A33.out).mono ?_); rintro e w' ⟨rfl, ⟨nd, rfl⟩⟩))
                    go_ret
                    exact ⟨by first | rfl | (simp [errW_none, errW_some] <;> rfl) | (simp [*, errW_none, errW_some] <;> rfl), by repeat (first | (with_reducible first | exact HB.out | apply below_alloc | apply pw_below_drewN | apply below_drew1) | exact HB.out)⟩
                  · rw [if_neg c34] at H
                    have c34b0 : (t165 == 0) = false := beq_eq_false_iff_ne.mpr c34
                    have c34b1 : (t165 != 0) = true := bne_iff_ne.mpr c34
                    exact Bool.noConfusion ((Option.some.inj H).trans hr.out)
                · rw [if_neg c32] at H
                  have c32b0 : ((Op.bytesLess t151.toList t155.toList) == (decide ((wrap64 (1 + (Go.bits .and .i64 a0 127))) < (wrap64 (1 + (Go.bits .and .i64 a3 127)))))) = false := by simpa using c32
                  (try (have c32b1 : decide ((Op.bytesLess t151.toList t155.toList) = (decide ((wrap64 (1 + (Go.bits .and .i64 a0 127))) < (wrap64 (1 + (Go.bits .and .i64 a3 127)))))) = false := by simpa using c32))
                  (try (have c32b2 : ((Op.bytesLess t151.toList t155.toList) == (decide ((wrap64 (1 + (Go.bits .and .i64 a0 127))) < (wrap64 (1 + (Go.bits .and .i64 a3 127)))))) = false := by simpa using c32))
                  (try (have c32b3 : ¬ ((Op.bytesLess t151.toList t155.toList) = (decide ((wrap64 (1 + (Go.bits .and .i64 a0 127))) < (wrap64 (1 + (Go.bits .and .i64 a3 127)))))) := by simpa using c32))
                  clear c32
                  exact Bool.noConfusion ((Option.some.inj H).trans hr.out)
            · rw [if_neg c26] at H
              have c26b0 : ((t151.toList == t153.toList) == (a1.toList == a2.toList)) = false := by simpa using c26
              (try (have c26b1 : decide ((t151.toList == t153.toList) = (a1.toList == a2.toList)) = false := by simpa using c26))
              (try (have c26b2 : ((t151.toList == t153.toList) == (a1.toList == a2.toList)) = false := by simpa using c26))
              (try (have c26b3 : ¬ ((t151.toList == t153.toList) = (a1.toList == a2.toList)) := by simpa using c26))
              clear c26
              exact Bool.noConfusion ((Option.some.inj H).trans hr.out)
          · rw [if_neg c25] at H
            have c25b0 : ((Op.bytesLess t151.toList t153.toList) == (Op.bytesLess a1.toList a2.toList)) = false := by simpa using c25
            (try (have c25b1 : decide ((Op.bytesLess t151.toList t153.toList) = (Op.bytesLess a1.toList a2.toList)) = false := by simpa using c25))
            (try (have c25b2 : ((Op.bytesLess t151.toList t153.toList) == (Op.bytesLess a1.toList a2.toList)) = false := by simpa using c25))
            (try (have c25b3 : ¬ ((Op.bytesLess t151.toList t153.toList) = (Op.bytesLess a1.toList a2.toList)) := by simpa using c25))
            clear c25
            exact Bool.noConfusion ((Option.some.inj H).trans hr.out)
  · replace c6 := Bool.eq_false_iff.mpr c6
    subst c6
    have H1 : (some false) = some r := by rw [if_neg (show ¬ (false = true) by decide)] at H; exact H
    clear H
    have H := H1
    clear H1
    exact Bool.noConfusion ((Option.some.inj H).trans hr.out)
/-- THE ONE PURE STATEMENT of cryostatlaw16_KeyRows: yours. -/
def cryostatlaw16_KeyRows.Pure : Prop := ∀ (a0 : Int) (a1 : ByteArray) (a2 : ByteArray) (a3 : Int), (Lit.int .i64 a0).wf = true → a1.size ≤ 140737488351232 → a2.size ≤ 140737488351232 → (Lit.int .i64 a3).wf = true → ∃ k, cryostatlaw16_KeyRows.f k a0 a1 a2 a3 = some true
theorem cryostatlaw16_KeyRows.walk (P : cryostatlaw16_KeyRows.Pure) (a0 : Int) (a1 : ByteArray) (a2 : ByteArray) (a3 : Int) (w : World) (w0 : (Lit.int .i64 a0).wf = true) (w1 : a1.size ≤ 140737488351232) (w2 : a2.size ≤ 140737488351232) (w3 : (Lit.int .i64 a3).wf = true) :
    Calls Try.prog 12 #[.int .i64 a0, .string a1, .string a2, .int .i64 a3] w fun e w' => e = .returned (.bool true) ∧ Below w.heap.size w w' := by
  obtain ⟨k, h⟩ := P a0 a1 a2 a3 w0 w1 w2 w3
  refine (cryostatlaw16_KeyRows.calls k a0 a1 a2 a3 true w ⟨rfl⟩ h).mono ?_
  rintro e w' ⟨rfl, hd⟩
  exact ⟨rfl, hd⟩

end Go.Proofs.Ytekgaoakijbmaaa.PKeyRows
