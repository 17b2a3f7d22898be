import Derived.Test.YtbgidagbogpfkaaDoorR8Shelf
import Derived.Test.YtbgidagbogpfkaaDoorR8Code
import Derived.Test.YtbgidagbogpfkaaDoorAh2
/- Externals: contracts of strconv.Itoa, Atoi, strings.Contains, stringslite.Index, strings.Builder for the machine. -/
namespace Go.AM
open Go.Proofs Go.RowKit
set_option linter.unusedVariables false
set_option linter.unusedSimpArgs false
set_option maxRecDepth 1000000
theorem Callable.of_at {P : Program} {f : FuncId} {fn : Func} {c : Code} (hf : P.funcs[f]? = some fn) (hname : (fn.name == "runtime.NumGoroutine") = false) (hb : fn.body = some c) : Callable P f := ⟨fn, hf, by simpa using hname, by rw [hb]; rfl⟩
/-- Nothing below the memory's end turns: as it was, whatever has come behind. -/
theorem RelH.below {ρ : Rho} {H : Heap} {w w' : World} (hr : RelH ρ H w) (hb : Below w.heap.size w w') : RelH ρ H w' :=
  ⟨hr.dom, fun b L B hL hB => by
    obtain ⟨c, t, fr, h1, h2⟩ := hr.blk b L B hL hB
    exact ⟨c, t, fr, by rw [hb.block _ (hr.lt hL hB)]; exact h1, h2⟩, hr.inj, gStable (fun cb hcb => hb.block cb (Nat.lt_of_lt_of_le hcb (gLt hr.j))) hr.j, hr.low, fun b L B hL hB => (hr.typ b L B hL hB).keep (hb.block _ (hr.lt hL hB))⟩
theorem Adv.below {base : Nat} {ρ : Rho} {H : Heap} {w w' : World} (hr : RelH ρ H w) (hb : Below w.heap.size w w') : Adv base ρ H w ρ H w' :=
  ⟨RhoLe.refl _, hr.below hb, hb.os, hb.tape, hb.output, hb.size, fun cb hcb _ => hb.block cb hcb, fun b _ h => ⟨h, rfl⟩, (fun b L h h' => by rw [h] at h'; cases h'), Nat.le_refl _, fun b L B' _ h => ⟨B', h, rfl, rfl⟩⟩
/-- What is proved of the model, for flat arguments and a flat result, where the package's variables are known. -/
theorem XSound.of_belowJ {P : Program} {f : FuncId} {g : List Value → Heap → Option (Value × Heap)} (able : Callable P f)
    (h : ∀ args H v H', g args H = some (v, H') → H' = H ∧ flat v = true ∧ args.all flat = true ∧ ∀ w, gJ w → Calls P f args.toArray w fun e w' => e = .returned v ∧ Go.RowKit.Below w.heap.size w w') : XSound P f g where
  next := fun args H v H' hg hw => by
    obtain ⟨rfl, _⟩ := h _ _ _ _ hg
    exact ⟨hw, Nat.le_refl _⟩
  sound := fun args H v H' hg ρ args' w hw hr ha => by
    obtain ⟨rfl, hfl, hargs, hc⟩ := h _ _ _ _ hg
    have hsame : args' = args := ha.eq_of fun a b hm hab => V3.flat (List.all_eq_true.1 hargs a hm) hab
    subst hsame
    refine .inl ⟨able, (hc w hr.j).mono fun e w' he => ?_⟩
    obtain ⟨rfl, hb⟩ := he
    exact ⟨v, ρ, rfl, V3.of_flat hfl, Adv.below hr hb⟩
/-- A new block, of which nothing is known. -/
theorem Adv.ghost1 {base : Nat} {ρ : Rho} {H : Heap} {w w' : World} (hw : Hw H) (hr : RelH ρ H w) (hb : Below w.heap.size w w') (L : Loc) (hL : w.heap.size ≤ L.blk) (hbase : base ≤ H.next) :
    Adv base ρ H w (rset ρ H.next L) { H with next := H.next + 1 } w' := by
  have hn : ρ H.next = none := hr.none_ge (Nat.le_refl _)
  have hle : RhoLe ρ (rset ρ H.next L) := rset_le hn
  have old : ∀ b M B, rset ρ H.next L b = some M → H.blk b = some B → ρ b = some M := fun b M B hb hB => by
    have e : b ≠ H.next := fun e => by subst e; rw [hw _ (Nat.le_refl _)] at hB; cases hB
    unfold rset at hb; rw [if_neg e] at hb; exact hb
  have hr' := hr.below hb
  refine ⟨hle, ⟨?_, ?_, ?_, hr'.j, ?_, ?_⟩, hb.os, hb.tape, hb.output, hb.size, fun cb hcb _ => hb.block cb hcb, ?_, ?_, Nat.le_succ _, ?_⟩
  · intro b M hM
    unfold rset at hM
    by_cases e : b = H.next
    · subst e; exact Nat.lt_succ_self _
    · rw [if_neg e] at hM; exact Nat.lt_succ_of_lt (hr.dom b M hM)
  · intro b M B hM hB
    obtain ⟨c, t, fr, h1, h2, h3, h4, h5⟩ := hr'.blk b M B (old b M B hM hB) hB
    exact ⟨c, t, fr, h1, h2, h3, h4, fun o v hv => by
      obtain ⟨v', q1, q2⟩ := h5 o v hv
      exact ⟨v', q1, q2.mono hle⟩⟩
  · intro b1 b2 M1 M2 B1 B2 g1 g2 g3 g4 g5 g6
    exact hr'.inj b1 b2 M1 M2 B1 B2 (old _ _ _ g1 g3) (old _ _ _ g2 g4) g3 g4 g5 g6
  · intro b M B hM hB; exact hr'.low b M B (old _ _ _ hM hB) hB
  · intro b M B hM hB; exact hr'.typ b M B (old _ _ _ hM hB) hB
  · intro b hlt h0
    have e : b ≠ H.next := by omega
    exact ⟨by unfold rset; rw [if_neg e]; exact h0, rfl⟩
  · intro b M h0 hM
    unfold rset at hM
    by_cases e : b = H.next
    · rw [if_pos e] at hM; cases hM; exact ⟨by omega, .inl hL⟩
    · rw [if_neg e] at hM; rw [h0] at hM; cases hM
  · intro b M B' _ h; exact ⟨B', h, rfl, rfl⟩
/-! ### strconv.Itoa -/
def dg (n : Int) : ByteArray := ⟨(Lib.itoa n).toArray⟩
def itoaX : List Value → Heap → Option (Value × Heap)
  | [.int .i64 n], H => if -9223372036854775808 ≤ n ∧ n ≤ 9223372036854775807 then some (.string (dg n), H) else none
  | _, _ => none
theorem gJ.tabIs {w : World} (h : gJ w) : Lib.TabIs Tryd.prog w "internal/strconv.uint64pow10" .u64 Lib.pow10Tab := by
  obtain ⟨t, fr, h1⟩ := h.tab
  have hg : Tryd.prog.globalNamed "internal/strconv.uint64pow10" = some 1 := by kernel_rfl
  unfold Lib.TabIs World.var?
  simp only [hg, h1, Option.bind_eq_bind, Option.bind_some]
  simp only [Lib.pow10Tab, List.map_map]
  rfl
theorem grow_below (w : World) (k : Nat) (os : Array Obj) : Below w.heap.size w (Go.Sort.grow (w.drewN k) os) :=
  ⟨rfl, rfl, rfl, by simp [Go.Sort.grow, World.drewN], fun i hi => by simp [Go.Sort.grow, World.drewN, Array.getElem?_append_left hi]⟩
theorem bytesWorld_below (w : World) (e : TypeId) (t : ByteArray) : Below w.heap.size w (Lib.bytesWorld w e t) :=
  Lib.below_freeze ((Below.drew (Below.refl _ w)).alloc (Nat.le_refl _) _) (p := ⟨w.heap.size, _, none⟩) (Nat.le_refl _) 1
theorem itoaX_sound : XSound Tryd.prog f_strconv_Itoa itoaX := XSound.of_belowJ (Callable.of_at Tryd.laysM171.f171 (by kernel_rfl) rfl) fun args H v H' hg => by
  unfold itoaX at hg
  split at hg
  · rename_i n
    split at hg
    · rename_i hn; cases hg
      refine ⟨rfl, rfl, rfl, fun w hj => (Tryd.strconv_Itoa n hn.1 hn.2 w hj.tabIs).mono fun e w' he => ?_⟩
      obtain ⟨rfl, k, os, rfl⟩ := he
      exact ⟨rfl, grow_below w k os⟩
    · cases hg
  · cases hg
/-! ### strings.Contains, stringslite.Index -/
def one? (s : ByteArray) : Option UInt8 := match s.data.toList with | [c] => some c | _ => none
theorem one_inv {s : ByteArray} {c : UInt8} (h : one? s = some c) : s = ⟨#[c]⟩ := by
  unfold one? at h
  split at h
  · rename_i d hd; cases h
    apply ByteArray.ext
    apply Array.ext'
    simpa using hd
  · cases h
@[simp] theorem one_one (c : UInt8) : one? ⟨#[c]⟩ = some c := rfl
def containsX : List Value → Heap → Option (Value × Heap)
  | [.string s, .string t], H => match one? t with | some c => some (.bool (decide (0 ≤ Lib.indexByte s.data.toList c)), H) | none => none
  | _, _ => none
theorem containsX_sound : XSound Tryd.prog f_strings_Contains containsX := XSound.of_belowJ (Callable.of_at Tryd.lays144.f144 (by kernel_rfl) rfl) fun args H v H' hg => by
  unfold containsX at hg
  split at hg
  · rename_i s t
    split at hg
    · rename_i c hc; cases hg
      obtain rfl := one_inv hc
      refine ⟨rfl, rfl, rfl, fun w hj => (Tryd.strings_Contains_one s c w).mono fun e w' he => ?_⟩
      obtain ⟨rfl, rfl⟩ := he
      exact ⟨rfl, Below.refl _ _⟩
    · cases hg
  · cases hg
def indexX : List Value → Heap → Option (Value × Heap)
  | [.string s, .string t], H => match one? t with | some c => some (.int .i64 (Lib.indexByte s.data.toList c), H) | none => none
  | _, _ => none
theorem indexX_sound : XSound Tryd.prog f_internal_stringslite_Index indexX := XSound.of_belowJ (Callable.of_at Tryd.lays219.f219 (by kernel_rfl) rfl) fun args H v H' hg => by
  unfold indexX at hg
  split at hg
  · rename_i s t
    split at hg
    · rename_i c hc; cases hg
      obtain rfl := one_inv hc
      refine ⟨rfl, rfl, rfl, fun w hj => (Tryd.stringslite_Index_one s c w).mono fun e w' he => ?_⟩
      obtain ⟨rfl, rfl⟩ := he
      exact ⟨rfl, Below.refl _ _⟩
    · cases hg
  · cases hg
/-! ### strconv.Atoi -/
def atoiX : List Value → Heap → Option (Value × Heap)
  | [.string s], H => if s.size ≤ 281474976710656 then (match Lib.atoiAll s.data.toList with
      | .ok v => some (.tuple #[.int .i64 v, .nilIface], H)
      | .range => some (.tuple #[.int .i64 (Lib.atoiSat s.data.toList), .iface 98 (ptr H.next 0)], { H with next := H.next + 1 })
      | _ => some (.tuple #[.int .i64 0, .iface 98 (ptr H.next 0)], { H with next := H.next + 1 })) else none
  | _, _ => none
theorem atoiX_sound : XSound Tryd.prog f_strconv_Atoi atoiX where
  next := fun args H v H' hg hw => by
    unfold atoiX at hg
    split at hg
    · split at hg
      · split at hg <;> cases hg
        · exact ⟨hw, Nat.le_refl _⟩
        · exact ⟨fun b hb => hw b (by have : H.next + 1 ≤ b := hb; omega), Nat.le_succ _⟩
        · exact ⟨fun b hb => hw b (by have : H.next + 1 ≤ b := hb; omega), Nat.le_succ _⟩
      · cases hg
    · cases hg
  sound := fun args H v H' hg ρ args' w hw hr ha => by
    have able : Callable Tryd.prog f_strconv_Atoi := Callable.of_at Tryd.laysC172.f172 (by kernel_rfl) rfl
    unfold atoiX at hg
    split at hg
    case h_2 => cases hg
    rename_i s
    split at hg
    case isFalse => cases hg
    rename_i hs
    obtain rfl : args' = [.string s] := ha.eq_of fun a b hm hab => V3.flat (by simp at hm; subst hm; rfl) hab
    have errs : ∀ (x : Int), (∀ (H0 : Unit), Calls Tryd.prog f_strconv_Atoi [Value.string s].toArray w fun e w' => ∃ N ev, e = .returned (.tuple #[.int .i64 x, .iface 98 (.pointer (some ⟨N, 0, none⟩))]) ∧ w.heap.size ≤ N ∧ w'.heap[N]? = some (.cells #[.string ⟨#[65, 116, 111, 105]⟩, .string s, ev] 108 (0, 0)) ∧ Below w.heap.size w w') →
        Does Tryd.prog f_strconv_Atoi [Value.string s].toArray w fun e w' => ∃ v' ρ', e = .returned v' ∧ V3 ρ' (.tuple #[.int .i64 x, .iface 98 (ptr H.next 0)]) v' ∧ Adv H.next ρ H w ρ' { H with next := H.next + 1 } w' := by
      intro x hc
      refine .inl ⟨able, (hc ()).mono fun e w' he => ?_⟩
      obtain ⟨N, ev, rfl, hN, _, hb⟩ := he
      refine ⟨_, rset ρ H.next ⟨N, 3, 1, 0⟩, rfl, ⟨_, rfl, ⟨rfl, rfl⟩, ?_, trivial⟩, Adv.ghost1 hw hr hb ⟨N, 3, 1, 0⟩ hN (Nat.le_refl _)⟩
      exact ⟨⟨N, 3, 1, 0⟩, by simp [rset], rfl, rfl⟩
    split at hg <;> cases hg
    · rename_i v0 hv
      refine .inl ⟨able, (Tryd.strconv_Atoi_ok s (by omega) v0 hv w).mono fun e w' he => ?_⟩
      obtain ⟨rfl, hw'⟩ := he
      refine ⟨_, ρ, rfl, V3.of_flat rfl, Adv.below hr ?_⟩
      rcases hw' with rfl | ⟨t, rfl⟩
      · exact Below.refl _ _
      · exact bytesWorld_below w 5 t
    · rename_i hv
      obtain ⟨te, pe, hev⟩ := hr.j.rng
      refine errs _ fun _ => (Tryd.strconv_Atoi_range s hs hv _ w hev (.inr ⟨_, _, rfl⟩)).mono fun e w' he => ?_
      obtain ⟨N, h1, h2, h3, h4⟩ := he
      exact ⟨N, _, h1, h2, h3, h4⟩
    · rename_i hv1 hv2
      have hv : isSx (Lib.atoiAll s.data.toList) = true := by
        cases hv : Lib.atoiAll s.data.toList with
        | ok v => exact absurd hv (hv1 v)
        | range => exact absurd hv hv2
        | _ => rfl
      obtain ⟨te, pe, hev⟩ := hr.j.syn
      refine errs 0 fun _ => (Tryd.strconv_Atoi_syntax s hs hv _ w hev (.inr ⟨_, _, rfl⟩)).mono fun e w' he => ?_
      obtain ⟨N, h1, h2, h3, h4⟩ := he
      exact ⟨N, _, h1, h2, h3, h4⟩
end Go.AM
