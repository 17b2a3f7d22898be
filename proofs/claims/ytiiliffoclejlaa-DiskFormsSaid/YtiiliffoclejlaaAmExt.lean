/- AM: contracts from elsewhere: functions whose arguments and result hold no address. -/
import Derived.Test.YtiiliffoclejlaaAmSim
import Derived.Lib.Repeat
namespace Go.AM
set_option linter.unusedVariables false
/-- What is proved of the model, for flat arguments and a flat result, serves. -/
theorem XSound.of_below {P : Program} {f : FuncId} {g : List Value → Heap → Option (Value × Heap)} (able : Callable P f)
    (h : ∀ args H v H', g args H = some (v, H') → H' = H ∧ flat v = true ∧ args.all flat = true ∧ ∀ w, Calls P f args.toArray w fun e w' => e = .returned v ∧ Go.RowKit.Below w.heap.size w w') : XSound P f g where
  able := able
  next := fun args H v H' hg hw => by
    obtain ⟨rfl, _⟩ := h _ _ _ _ hg
    exact ⟨hw, Nat.le_refl _⟩
  sound := fun args H v H' hg ρ args' w hw hr ha => by
    obtain ⟨rfl, hfl, hargs, hc⟩ := h _ _ _ _ hg
    have hsame : args' = args := ha.eq_of fun a b hm hab => V3.flat (List.all_eq_true.1 hargs a hm) hab
    subst hsame
    refine (hc w).mono fun e w' he => ?_
    obtain ⟨rfl, hb⟩ := he
    refine ⟨v, ρ, rfl, V3.of_flat hfl, ?_⟩
    have hblk : ∀ b L B, ρ b = some L → H'.blk b = some B → L.blk < w.heap.size := fun b L B hL hB => by
      obtain ⟨c, t, fr, h1, _⟩ := hr.blk b L B hL hB
      exact (Array.getElem?_eq_some_iff.1 h1).1
    refine ⟨RhoLe.refl _, ⟨hr.dom, fun b L B hL hB => ?_, hr.inj⟩, hb.os, hb.tape, hb.output, hb.size, fun cb hcb _ => hb.block cb hcb, fun b _ h => ⟨h, rfl⟩, (fun b L h h' => by rw [h] at h'; cases h'), Nat.le_refl _, fun b L B' _ h => ⟨B', h, rfl, rfl⟩⟩
    obtain ⟨c, t, fr, h1, h2⟩ := hr.blk b L B hL hB
    exact ⟨c, t, fr, by rw [hb.block _ (hblk b L B hL hB)]; exact h1, h2⟩
/-- strings.Repeat: so many times a text. -/
def repeatB (s : ByteArray) (n : Nat) : ByteArray := ⟨(Lib.repeatL s.data.toList n).toArray⟩
def repeatX : List Value → Heap → Option (Value × Heap)
  | [.string s, .int .i64 n], H => if 0 ≤ n ∧ n ≤ 9223372036854775807 ∧ s.size * n.toNat ≤ 140737488355328 then some (.string (repeatB s n.toNat), H) else none
  | _, _ => none
theorem repeatX_sound {P : Program} {f : FuncId} (able : Callable P f)
    (h : ∀ (s : ByteArray) (c : Nat) (w : World), c ≤ 9223372036854775807 → s.size * c ≤ 140737488355328 → Calls P f #[.string s, .int .i64 c] w fun e w' => e = .returned (.string (repeatB s c)) ∧ Go.RowKit.Below w.heap.size w w') : XSound P f repeatX := by
  refine XSound.of_below able fun args H v H' hg => ?_
  unfold repeatX at hg
  split at hg
  · rename_i H0 s n
    split at hg
    · rename_i hc; cases hg
      refine ⟨rfl, rfl, rfl, fun w => ?_⟩
      have := h s n.toNat w (by omega) hc.2.2
      rw [Int.toNat_of_nonneg hc.1] at this
      exact this
    · cases hg
  · cases hg
end Go.AM
